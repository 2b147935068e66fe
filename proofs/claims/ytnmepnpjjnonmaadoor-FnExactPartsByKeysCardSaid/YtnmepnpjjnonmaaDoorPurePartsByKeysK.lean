/-
  How many parts there are by keys: the law holds.
-/
import Derived.Test.YtnmepnpjjnonmaaDoorPurePartsK
namespace Go.Proofs.YtnmepnpjjnonmaaDoor.Pure
open Go.RowKit Go.Proofs.YtnmepnpjjnonmaaDoor.Lem Go.Proofs.YtnmepnpjjnonmaaDoor.PK Go.Proofs.YtnmepnpjjnonmaaDoorW.PrintWords Go.Proofs.YtnmepnpjjnonmaaDoorW.PrintLast Go.Proofs.YtnmepnpjjnonmaaDoorW.PrintMore

theorem FnExactPartsByKeys : laws_FnExactPartsByKeys.Pure := by
  intro L hl hz
  obtain ⟨t, ht, hc⟩ := szStringS L hl hz
  have key : Ev (fun k => laws_FnExactPartsByKeys.f k L) true := by
    unfold laws_FnExactPartsByKeys.f
    refine Ev.bind ht ?_
    by_cases c1 : t < 0
    · exact Ev.congr (fun k => if_pos c1) (Ev.now _)
    have hh := hc.resolve_left c1
    have h1 := toStringS L hh
    have h2 := eqStringS L hh
    obtain ⟨ks, rfl⟩ := as_tx L
    have e1 := specParts ks (by rwa [List.length_map] at hh)
    have e2 := implParts ks (by rwa [List.length_map] at hh)
    refine Ev.congr (fun k => if_neg c1) (Ev.bind h1 (Ev.bind e1 (Ev.bind h1 (Ev.bind e2 ?_))))
    refine Ev.congr (fun k => by rw [if_pos rfl, bne_self_eq_false]) ?_
    refine Ev.step (fun k => by simp only [laws_FnExactPartsByKeys.j0]; rw [if_neg Bool.false_ne_true]) (Ev.bind h1 ?_)
    exact Ev.bind h2 (Ev.congr (fun k => if_pos rfl) (Ev.now _))
  obtain ⟨K, h⟩ := key
  exact ⟨K, h K (Nat.le_refl _)⟩
end Go.Proofs.YtnmepnpjjnonmaaDoor.Pure
