/- For all arguments the law FnPairsNearOfAll answers true: the pure statement is proved in the text that is imported here. -/
import Derived.Test.YtfejpncdjlmamaaDoorPureNearAllN
namespace Go.Proofs.YtfejpncdjlmamaaDoor.Pure
end Go.Proofs.YtfejpncdjlmamaaDoor.Pure
