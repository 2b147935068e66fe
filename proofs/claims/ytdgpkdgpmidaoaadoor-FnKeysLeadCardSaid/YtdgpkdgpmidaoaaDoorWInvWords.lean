import Derived.Test.YtdgpkdgpmidaoaaDoorWInv
import Derived.Test.YtdgpkdgpmidaoaaDoorWFootNe
namespace Go.Proofs.YtdgpkdgpmidaoaaDoorW.PrintWords
open Go.RowKit
end Go.Proofs.YtdgpkdgpmidaoaaDoorW.PrintWords
namespace Go.Proofs.YtdgpkdgpmidaoaaDoorW.PrintLast
section
variable {ops : Array Oper} {a : Act} {o og : Oper} {g : Nat} {t : Tmp} {u : Bool}
end
end Go.Proofs.YtdgpkdgpmidaoaaDoorW.PrintLast
