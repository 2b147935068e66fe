/- For all arguments the law FnExactSavedByPairs answers true: the pure statement is proved in the text that is imported here. -/
import Derived.Test.YtmnofoioefdomaaDoorPureFewD
namespace Go.Proofs.YtmnofoioefdomaaDoor.Pure
end Go.Proofs.YtmnofoioefdomaaDoor.Pure
