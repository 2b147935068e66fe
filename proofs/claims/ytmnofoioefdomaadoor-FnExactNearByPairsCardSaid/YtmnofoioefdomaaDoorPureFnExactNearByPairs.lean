/- For all arguments the law FnExactNearByPairs answers true: the pure statement is proved in the text that is imported here. -/
import Derived.Test.YtmnofoioefdomaaDoorPureNearC
namespace Go.Proofs.YtmnofoioefdomaaDoor.Pure
end Go.Proofs.YtmnofoioefdomaaDoor.Pure
