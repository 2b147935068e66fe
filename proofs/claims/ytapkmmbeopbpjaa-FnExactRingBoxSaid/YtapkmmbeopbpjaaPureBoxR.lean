/- The pure statement of the law on RingBox: the few sizes that are let in are reckoned one by one. -/
import Derived.Test.YtapkmmbeopbpjaaPAx6
namespace Go.Proofs.Ytapkmmbeopbpjaa.Pure
open Go.RowKit Go.Proofs.Ytapkmmbeopbpjaa.PA Go.Proofs.YtapkmmbeopbpjaaW.PrintWords Go.Proofs.YtapkmmbeopbpjaaW.PrintLast Go.Proofs.YtapkmmbeopbpjaaW.PrintMore
theorem obind {α β : Type} (a : α) (f : α → Option β) : (some a).bind f = f a := by rw [Option.bind_some]
set_option maxRecDepth 100000 in
theorem at_1 : laws_FnExactRingBox.f 100 1 = some true := by decide +kernel
set_option maxRecDepth 100000 in
theorem at_2 : laws_FnExactRingBox.f 100 2 = some true := by decide +kernel
set_option maxRecDepth 100000 in
theorem at_3 : laws_FnExactRingBox.f 100 3 = some true := by decide +kernel
set_option maxRecDepth 100000 in
theorem at_4 : laws_FnExactRingBox.f 100 4 = some true := by decide +kernel
set_option maxRecDepth 100000 in
theorem at_5 : laws_FnExactRingBox.f 100 5 = some true := by decide +kernel
set_option maxRecDepth 100000 in
theorem at_6 : laws_FnExactRingBox.f 100 6 = some true := by decide +kernel
theorem size_out (k : Nat) (a0 a1 : Int) (h : ¬ ((1 ≤ a0 ∧ a0 ≤ 6) ∧ 2 ≤ a1 ∧ a1 ≤ 5)) : spec_bxSize.f k a0 a1 = some false := by
  unfold spec_bxSize.f spec_l1In.f
  by_cases h1 : a0 ≥ 1
  · rw [if_pos h1, obind]
    by_cases h2 : a0 ≤ 6
    · rw [if_pos (by simpa using h2)]
      by_cases h3 : a1 ≥ 2
      · rw [if_pos h3, obind, if_neg (by simp; omega)]
      · rw [if_neg h3, obind, if_neg (by simp)]
    · rw [if_neg (by simpa using h2)]
  · rw [if_neg h1, obind, if_neg (by simp)]
theorem sized_out (k : Nat) (a0 a1 : Int) (l : List ByteArray) (h : ¬ ((1 ≤ a0 ∧ a0 ≤ 6) ∧ 2 ≤ a1 ∧ a1 ≤ 5)) : impl_Box_sized.f k a0 a1 l = some false := by
  unfold impl_Box_sized.f impl_in.f
  by_cases h1 : a0 ≥ 1
  · rw [if_pos h1, obind]
    by_cases h2 : a0 ≤ 6
    · rw [if_pos (by simpa using h2)]
      by_cases h3 : a1 ≥ 2
      · rw [if_pos h3, obind, if_neg (by simp; omega)]
      · rw [if_neg h3, obind, if_neg (by simp)]
    · rw [if_neg (by simpa using h2)]
  · rw [if_neg h1, obind, if_neg (by simp)]
theorem spec_out (k : Nat) (a0 : Int) (h : ¬ ((1 ≤ a0 ∧ a0 ≤ 6) ∧ 2 ≤ (2 : Int) ∧ (2 : Int) ≤ 5)) : spec_RingBox.f k a0 = some (0, 0, [], false) := by
  unfold spec_RingBox.f
  rw [size_out k a0 (2 : Int) h, obind, if_neg (by simp)]
theorem impl_out (k : Nat) (a0 : Int) (h : ¬ ((1 ≤ a0 ∧ a0 ≤ 6) ∧ 2 ≤ (2 : Int) ∧ (2 : Int) ≤ 5)) : impl_RingBox.f k a0 = some (0, 0, [], false) := by
  unfold impl_RingBox.f impl_boxOf.f
  rw [sized_out k a0 (2 : Int) [] h, obind, if_neg (by simp)]
theorem eq_nil : laws_eqBox.f 99 0 0 [] 0 0 [] = some true := by decide +kernel
theorem eq_nil' : laws_eqBox.f 100 0 0 [] 0 0 [] = some true := by decide +kernel
theorem mark_nil : laws_markBox.f 99 0 0 [] 1 = some (1, []) := by decide +kernel
theorem held_nil : laws_heldBox.f 99 0 0 [] 1 = some 1 := by decide +kernel
theorem end_nil : laws_FnExactRingBox.j1 99 1 false 0 0 [] = some true := by decide +kernel
theorem j_out (a0 : Int) (h : ¬ ((1 ≤ a0 ∧ a0 ≤ 6) ∧ 2 ≤ (2 : Int) ∧ (2 : Int) ≤ 5)) : laws_FnExactRingBox.j0 (99 + 1) a0 false false 0 0 [] 0 0 [] = some true := by
  rw [laws_FnExactRingBox.j0, if_neg (by simp), mark_nil, obind]
  dsimp only
  rw [held_nil, obind, if_neg (by decide), if_pos rfl, impl_out 99 a0 h, obind]
  dsimp only
  rw [eq_nil, obind, if_pos rfl]
  exact end_nil
theorem out_ (a0 : Int) (h : ¬ ((1 ≤ a0 ∧ a0 ≤ 6) ∧ 2 ≤ (2 : Int) ∧ (2 : Int) ≤ 5)) : laws_FnExactRingBox.f 100 a0 = some true := by
  unfold laws_FnExactRingBox.f
  rw [spec_out 100 a0 h, obind, impl_out 100 a0 h, obind]
  dsimp only
  rw [eq_nil', obind, if_pos rfl]
  exact j_out a0 h
theorem FnExactRingBox : laws_FnExactRingBox.Pure := by
  intro a0 _
  refine ⟨100, ?_⟩
  by_cases h : 1 ≤ a0 ∧ a0 ≤ 6
  · obtain rfl | rfl | rfl | rfl | rfl | rfl : a0 = 1 ∨ a0 = 2 ∨ a0 = 3 ∨ a0 = 4 ∨ a0 = 5 ∨ a0 = 6 := by omega
    · exact at_1
    · exact at_2
    · exact at_3
    · exact at_4
    · exact at_5
    · exact at_6
  · exact out_ a0 (by omega)
end Go.Proofs.Ytapkmmbeopbpjaa.Pure
