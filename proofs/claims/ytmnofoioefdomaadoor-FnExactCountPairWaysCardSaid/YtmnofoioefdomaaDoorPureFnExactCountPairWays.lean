/- For all arguments the law FnExactCountPairWays answers true: the pure statement is proved in the text that is imported here. -/
import Derived.Test.YtmnofoioefdomaaDoorPureWaysW
namespace Go.Proofs.YtmnofoioefdomaaDoor.Pure
end Go.Proofs.YtmnofoioefdomaaDoor.Pure
