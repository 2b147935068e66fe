import Derived.Test.YtgfjgpnaalblbaaGreatDoorWInv
import Derived.Test.YtgfjgpnaalblbaaGreatDoorWFootNe
namespace Go.Proofs.YtgfjgpnaalblbaaGreatDoorW.PrintWords
open Go.RowKit
end Go.Proofs.YtgfjgpnaalblbaaGreatDoorW.PrintWords
namespace Go.Proofs.YtgfjgpnaalblbaaGreatDoorW.PrintLast
section
variable {ops : Array Oper} {a : Act} {o og : Oper} {g : Nat} {t : Tmp} {u : Bool}
end
end Go.Proofs.YtgfjgpnaalblbaaGreatDoorW.PrintLast
