import Derived.Test.YtbmbehkdidlolaaGreatDoorWInv
import Derived.Test.YtbmbehkdidlolaaGreatDoorWFootNe
namespace Go.Proofs.YtbmbehkdidlolaaGreatDoorW.PrintWords
open Go.RowKit
end Go.Proofs.YtbmbehkdidlolaaGreatDoorW.PrintWords
namespace Go.Proofs.YtbmbehkdidlolaaGreatDoorW.PrintLast
section
variable {ops : Array Oper} {a : Act} {o og : Oper} {g : Nat} {t : Tmp} {u : Bool}
end
end Go.Proofs.YtbmbehkdidlolaaGreatDoorW.PrintLast
