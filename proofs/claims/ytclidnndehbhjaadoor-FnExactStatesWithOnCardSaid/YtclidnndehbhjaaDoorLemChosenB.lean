/-
  The number of ways to choose so many of so many: the program's product, and Pascal's triangle.
-/
import Derived.Test.YtclidnndehbhjaaDoorLemWithB
namespace Go.Proofs.YtclidnndehbhjaaDoor.Lem
open Go.RowKit Go.Proofs.YtclidnndehbhjaaDoor.PB Go.Proofs.YtclidnndehbhjaaDoorW.PrintWords Go.Proofs.YtclidnndehbhjaaDoorW.PrintLast Go.Proofs.YtclidnndehbhjaaDoorW.PrintMore Go.Proofs.YtclidnndehbhjaaDoor.Ring
theorem chosen_tab : ∀ r : Fin 13, ∀ on : Fin 13, on.val ≤ r.val → impl_chosen.f 14 (r.val : Int) (on.val : Int) = some (pas r.val on.val : Int) := by decide +kernel
theorem chosen (r on : Nat) (hr : r ≤ 12) (ho : on ≤ r) : Ev (fun k => impl_chosen.f k (r : Int) (on : Int)) (pas r on : Int) :=
  Ev.of (k := 14) (fun k => impl_chosen.mono _ _ k) (chosen_tab ⟨r, by omega⟩ ⟨on, by omega⟩ ho)
end Go.Proofs.YtclidnndehbhjaaDoor.Lem
