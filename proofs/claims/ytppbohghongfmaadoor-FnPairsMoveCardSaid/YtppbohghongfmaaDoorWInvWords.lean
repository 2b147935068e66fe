import Derived.Test.YtppbohghongfmaaDoorWInv
import Derived.Test.YtppbohghongfmaaDoorWFootNe
namespace Go.Proofs.YtppbohghongfmaaDoorW.PrintWords
open Go.RowKit
end Go.Proofs.YtppbohghongfmaaDoorW.PrintWords
namespace Go.Proofs.YtppbohghongfmaaDoorW.PrintLast
section
variable {ops : Array Oper} {a : Act} {o og : Oper} {g : Nat} {t : Tmp} {u : Bool}
end
end Go.Proofs.YtppbohghongfmaaDoorW.PrintLast
