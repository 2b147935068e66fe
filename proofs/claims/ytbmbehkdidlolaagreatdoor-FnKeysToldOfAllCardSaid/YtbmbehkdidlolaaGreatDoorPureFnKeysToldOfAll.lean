/- For all arguments the law FnKeysToldOfAll answers true: the pure statement is proved in the text that is imported here. -/
import Derived.Test.YtbmbehkdidlolaaGreatDoorPureAllT
namespace Go.Proofs.YtbmbehkdidlolaaGreatDoor.Pure
end Go.Proofs.YtbmbehkdidlolaaGreatDoor.Pure
