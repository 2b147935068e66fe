import Derived.Test.YtehhfcbhoaocdaaWInv
import Derived.Test.YtehhfcbhoaocdaaWFootNe
namespace Go.Proofs.YtehhfcbhoaocdaaW.PrintWords
open Go.RowKit
end Go.Proofs.YtehhfcbhoaocdaaW.PrintWords
namespace Go.Proofs.YtehhfcbhoaocdaaW.PrintLast
section
variable {ops : Array Oper} {a : Act} {o og : Oper} {g : Nat} {t : Tmp} {u : Bool}
end
end Go.Proofs.YtehhfcbhoaocdaaW.PrintLast
