/-
  Bolts and two allowed states of them.
-/
import Derived.Test.YtehhfcbhoaocdaaLemBoFarF
namespace Go.Proofs.Ytehhfcbhoaocdaa.Lem
open Go.RowKit Go.Proofs.Ytehhfcbhoaocdaa.PF Go.Proofs.YtehhfcbhoaocdaaW.PrintWords Go.Proofs.YtehhfcbhoaocdaaW.PrintLast Go.Proofs.YtehhfcbhoaocdaaW.PrintMore Go.Proofs.Ytehhfcbhoaocdaa.Bfs
theorem boTwo (pl : List Int) (bl : List Blk) (s t : Stt) (hl : pl.length ≤ 1048576) (hb : bl.length ≤ 1048576) : Ev (fun k => spec_boTwo.f k pl bl (tx s) (tx t)) (askedB pl bl s && askedB pl bl t) := by
  unfold spec_boTwo.f
  refine Ev.bind (boAsked pl bl s hl hb) ?_
  cases askedB pl bl s with
  | false => exact Ev.congr (fun k => if_neg (by simp)) (Ev.now _)
  | true =>
    rw [Bool.true_and]
    exact Ev.congr (fun k => if_pos rfl) (Ev.bind (f := fun _ t => some t) (boAsked pl bl t hl hb) (Ev.now _))
end Go.Proofs.Ytehhfcbhoaocdaa.Lem
