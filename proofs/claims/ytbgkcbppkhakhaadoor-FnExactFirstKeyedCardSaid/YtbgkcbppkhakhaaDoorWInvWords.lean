import Derived.Test.YtbgkcbppkhakhaaDoorWInv
import Derived.Test.YtbgkcbppkhakhaaDoorWFootNe
namespace Go.Proofs.YtbgkcbppkhakhaaDoorW.PrintWords
open Go.RowKit
end Go.Proofs.YtbgkcbppkhakhaaDoorW.PrintWords
namespace Go.Proofs.YtbgkcbppkhakhaaDoorW.PrintLast
section
variable {ops : Array Oper} {a : Act} {o og : Oper} {g : Nat} {t : Tmp} {u : Bool}
end
end Go.Proofs.YtbgkcbppkhakhaaDoorW.PrintLast
