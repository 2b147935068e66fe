/- For all arguments the law FnPairsNear answers true: the pure statement is proved in the text that is imported here. -/
import Derived.Test.YtgfjgpnaalblbaaGreatDoorPureNearDN
namespace Go.Proofs.YtgfjgpnaalblbaaGreatDoor.Pure
end Go.Proofs.YtgfjgpnaalblbaaGreatDoor.Pure
