import Derived.Test.YtejkogiiocbmfaaWInv
import Derived.Test.YtejkogiiocbmfaaWFootNe
namespace Go.Proofs.YtejkogiiocbmfaaW.PrintWords
open Go.RowKit
end Go.Proofs.YtejkogiiocbmfaaW.PrintWords
namespace Go.Proofs.YtejkogiiocbmfaaW.PrintLast
section
variable {ops : Array Oper} {a : Act} {o og : Oper} {g : Nat} {t : Tmp} {u : Bool}
end
end Go.Proofs.YtejkogiiocbmfaaW.PrintLast
