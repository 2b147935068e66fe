/- The pure statement of the law on StairBox: the few sizes that are let in are reckoned one by one. -/
import Derived.Test.YtapkmmbeopbpjaaPAx9
namespace Go.Proofs.Ytapkmmbeopbpjaa.Pure
open Go.RowKit Go.Proofs.Ytapkmmbeopbpjaa.PA Go.Proofs.YtapkmmbeopbpjaaW.PrintWords Go.Proofs.YtapkmmbeopbpjaaW.PrintLast Go.Proofs.YtapkmmbeopbpjaaW.PrintMore
theorem obind {α β : Type} (a : α) (f : α → Option β) : (some a).bind f = f a := by rw [Option.bind_some]
set_option maxRecDepth 100000 in
theorem at_1_2 : laws_FnExactStairBox.f 100 1 2 = some true := by decide +kernel
set_option maxRecDepth 100000 in
theorem at_1_3 : laws_FnExactStairBox.f 100 1 3 = some true := by decide +kernel
set_option maxRecDepth 100000 in
theorem at_1_4 : laws_FnExactStairBox.f 100 1 4 = some true := by decide +kernel
set_option maxRecDepth 100000 in
theorem at_1_5 : laws_FnExactStairBox.f 100 1 5 = some true := by decide +kernel
set_option maxRecDepth 100000 in
theorem at_2_2 : laws_FnExactStairBox.f 100 2 2 = some true := by decide +kernel
set_option maxRecDepth 100000 in
theorem at_2_3 : laws_FnExactStairBox.f 100 2 3 = some true := by decide +kernel
set_option maxRecDepth 100000 in
theorem at_2_4 : laws_FnExactStairBox.f 100 2 4 = some true := by decide +kernel
set_option maxRecDepth 100000 in
theorem at_2_5 : laws_FnExactStairBox.f 100 2 5 = some true := by decide +kernel
set_option maxRecDepth 100000 in
theorem at_3_2 : laws_FnExactStairBox.f 100 3 2 = some true := by decide +kernel
set_option maxRecDepth 100000 in
theorem at_3_3 : laws_FnExactStairBox.f 100 3 3 = some true := by decide +kernel
set_option maxRecDepth 100000 in
theorem at_3_4 : laws_FnExactStairBox.f 100 3 4 = some true := by decide +kernel
set_option maxRecDepth 100000 in
theorem at_3_5 : laws_FnExactStairBox.f 100 3 5 = some true := by decide +kernel
set_option maxRecDepth 100000 in
theorem at_4_2 : laws_FnExactStairBox.f 100 4 2 = some true := by decide +kernel
set_option maxRecDepth 100000 in
theorem at_4_3 : laws_FnExactStairBox.f 100 4 3 = some true := by decide +kernel
set_option maxRecDepth 100000 in
theorem at_4_4 : laws_FnExactStairBox.f 100 4 4 = some true := by decide +kernel
set_option maxRecDepth 100000 in
theorem at_4_5 : laws_FnExactStairBox.f 100 4 5 = some true := by decide +kernel
set_option maxRecDepth 100000 in
theorem at_5_2 : laws_FnExactStairBox.f 100 5 2 = some true := by decide +kernel
set_option maxRecDepth 100000 in
theorem at_5_3 : laws_FnExactStairBox.f 100 5 3 = some true := by decide +kernel
set_option maxRecDepth 100000 in
theorem at_5_4 : laws_FnExactStairBox.f 100 5 4 = some true := by decide +kernel
set_option maxRecDepth 100000 in
theorem at_5_5 : laws_FnExactStairBox.f 100 5 5 = some true := by decide +kernel
set_option maxRecDepth 100000 in
theorem at_6_2 : laws_FnExactStairBox.f 100 6 2 = some true := by decide +kernel
set_option maxRecDepth 100000 in
theorem at_6_3 : laws_FnExactStairBox.f 100 6 3 = some true := by decide +kernel
set_option maxRecDepth 100000 in
theorem at_6_4 : laws_FnExactStairBox.f 100 6 4 = some true := by decide +kernel
set_option maxRecDepth 100000 in
theorem at_6_5 : laws_FnExactStairBox.f 100 6 5 = some true := by decide +kernel
theorem size_out (k : Nat) (a0 a1 : Int) (h : ¬ ((1 ≤ a0 ∧ a0 ≤ 6) ∧ 2 ≤ a1 ∧ a1 ≤ 5)) : spec_bxSize.f k a0 a1 = some false := by
  unfold spec_bxSize.f spec_l1In.f
  by_cases h1 : a0 ≥ 1
  · rw [if_pos h1, obind]
    by_cases h2 : a0 ≤ 6
    · rw [if_pos (by simpa using h2)]
      by_cases h3 : a1 ≥ 2
      · rw [if_pos h3, obind, if_neg (by simp; omega)]
      · rw [if_neg h3, obind, if_neg (by simp)]
    · rw [if_neg (by simpa using h2)]
  · rw [if_neg h1, obind, if_neg (by simp)]
theorem sized_out (k : Nat) (a0 a1 : Int) (l : List ByteArray) (h : ¬ ((1 ≤ a0 ∧ a0 ≤ 6) ∧ 2 ≤ a1 ∧ a1 ≤ 5)) : impl_Box_sized.f k a0 a1 l = some false := by
  unfold impl_Box_sized.f impl_in.f
  by_cases h1 : a0 ≥ 1
  · rw [if_pos h1, obind]
    by_cases h2 : a0 ≤ 6
    · rw [if_pos (by simpa using h2)]
      by_cases h3 : a1 ≥ 2
      · rw [if_pos h3, obind, if_neg (by simp; omega)]
      · rw [if_neg h3, obind, if_neg (by simp)]
    · rw [if_neg (by simpa using h2)]
  · rw [if_neg h1, obind, if_neg (by simp)]
theorem spec_out (k : Nat) (a0 a1 : Int) (h : ¬ ((1 ≤ a0 ∧ a0 ≤ 6) ∧ 2 ≤ a1 ∧ a1 ≤ 5)) : spec_StairBox.f k a0 a1 = some (0, 0, [], false) := by
  unfold spec_StairBox.f
  rw [size_out k a0 a1 h, obind, if_neg (by simp)]
theorem impl_out (k : Nat) (a0 a1 : Int) (h : ¬ ((1 ≤ a0 ∧ a0 ≤ 6) ∧ 2 ≤ a1 ∧ a1 ≤ 5)) : impl_StairBox.f k a0 a1 = some (0, 0, [], false) := by
  unfold impl_StairBox.f impl_boxOf.f
  rw [sized_out k a0 a1 [] h, obind, if_neg (by simp)]
theorem eq_nil : laws_eqBox.f 99 0 0 [] 0 0 [] = some true := by decide +kernel
theorem eq_nil' : laws_eqBox.f 100 0 0 [] 0 0 [] = some true := by decide +kernel
theorem mark_nil : laws_markBox.f 99 0 0 [] 1 = some (1, []) := by decide +kernel
theorem held_nil : laws_heldBox.f 99 0 0 [] 1 = some 1 := by decide +kernel
theorem end_nil : laws_FnExactStairBox.j1 99 1 false 0 0 [] = some true := by decide +kernel
theorem j_out (a0 a1 : Int) (h : ¬ ((1 ≤ a0 ∧ a0 ≤ 6) ∧ 2 ≤ a1 ∧ a1 ≤ 5)) : laws_FnExactStairBox.j0 (99 + 1) a0 a1 false false 0 0 [] 0 0 [] = some true := by
  rw [laws_FnExactStairBox.j0, if_neg (by simp), mark_nil, obind]
  dsimp only
  rw [held_nil, obind, if_neg (by decide), if_pos rfl, impl_out 99 a0 a1 h, obind]
  dsimp only
  rw [eq_nil, obind, if_pos rfl]
  exact end_nil
theorem out_ (a0 a1 : Int) (h : ¬ ((1 ≤ a0 ∧ a0 ≤ 6) ∧ 2 ≤ a1 ∧ a1 ≤ 5)) : laws_FnExactStairBox.f 100 a0 a1 = some true := by
  unfold laws_FnExactStairBox.f
  rw [spec_out 100 a0 a1 h, obind, impl_out 100 a0 a1 h, obind]
  dsimp only
  rw [eq_nil', obind, if_pos rfl]
  exact j_out a0 a1 h
theorem FnExactStairBox : laws_FnExactStairBox.Pure := by
  intro a0 a1 _ _
  refine ⟨100, ?_⟩
  by_cases h : (1 ≤ a0 ∧ a0 ≤ 6) ∧ 2 ≤ a1 ∧ a1 ≤ 5
  · obtain rfl | rfl | rfl | rfl | rfl | rfl : a0 = 1 ∨ a0 = 2 ∨ a0 = 3 ∨ a0 = 4 ∨ a0 = 5 ∨ a0 = 6 := by omega
    all_goals obtain rfl | rfl | rfl | rfl : a1 = 2 ∨ a1 = 3 ∨ a1 = 4 ∨ a1 = 5 := by omega
    · exact at_1_2
    · exact at_1_3
    · exact at_1_4
    · exact at_1_5
    · exact at_2_2
    · exact at_2_3
    · exact at_2_4
    · exact at_2_5
    · exact at_3_2
    · exact at_3_3
    · exact at_3_4
    · exact at_3_5
    · exact at_4_2
    · exact at_4_3
    · exact at_4_4
    · exact at_4_5
    · exact at_5_2
    · exact at_5_3
    · exact at_5_4
    · exact at_5_5
    · exact at_6_2
    · exact at_6_3
    · exact at_6_4
    · exact at_6_5
  · exact out_ a0 a1 h
end Go.Proofs.Ytapkmmbeopbpjaa.Pure
