/- For all arguments the law FnExactPairMovesToClear answers true: the pure statement is proved in the text that is imported here. -/
import Derived.Test.YtmnofoioefdomaaDoorPureCntE
namespace Go.Proofs.YtmnofoioefdomaaDoor.Pure
end Go.Proofs.YtmnofoioefdomaaDoor.Pure
