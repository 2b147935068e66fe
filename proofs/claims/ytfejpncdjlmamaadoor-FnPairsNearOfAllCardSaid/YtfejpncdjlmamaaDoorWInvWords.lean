import Derived.Test.YtfejpncdjlmamaaDoorWInv
import Derived.Test.YtfejpncdjlmamaaDoorWFootNe
namespace Go.Proofs.YtfejpncdjlmamaaDoorW.PrintWords
open Go.RowKit
end Go.Proofs.YtfejpncdjlmamaaDoorW.PrintWords
namespace Go.Proofs.YtfejpncdjlmamaaDoorW.PrintLast
section
variable {ops : Array Oper} {a : Act} {o og : Oper} {g : Nat} {t : Tmp} {u : Bool}
end
end Go.Proofs.YtfejpncdjlmamaaDoorW.PrintLast
