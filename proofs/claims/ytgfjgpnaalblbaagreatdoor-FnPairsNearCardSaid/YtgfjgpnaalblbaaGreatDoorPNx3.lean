-- written by a program of this session's (wip/tools), over the kit's print
import Derived.Test.YtgfjgpnaalblbaaGreatDoorPNx0
import Derived.Test.YtgfjgpnaalblbaaGreatDoorPNx2
-- squeezed
-- squeezed twice
namespace Go.Proofs.YtgfjgpnaalblbaaGreatDoor.PN
open Go.RowKit Go.Proofs.YtgfjgpnaalblbaaGreatDoorW.PrintWords Go.Proofs.YtgfjgpnaalblbaaGreatDoorW.PrintLast Go.Proofs.YtgfjgpnaalblbaaGreatDoorW.PrintMore
attribute [local go_sem] max2_int min2_int max_two min_two max_three min_three max_four min_four   -- for this text's walks alone
set_option linter.unusedVariables false
set_option linter.unusedSimpArgs false

/-! ### impl_search: function 27 -/
mutual
def impl_search.l0 : Nat → ByteArray → List Int → List Int → Int → Int → Option (List Int × List Int × List ByteArray)
 | 0, _, _, _, _, _ => none
 | k + 1, x0, x5, x6, x24, x25 => if x25 < x24 then (if 0 ≤ x25 then (if x25 < (x5.length : Int) then (impl_search.l0 k x0 (x5.set (x25 : Int).toNat (-1)) x6 x24 (wrap64 (x25 + 1))) else (none)) else (none)) else ((impl_number.f k x0).bind fun t216 => ((impl_number.f k x0).bind fun t217 => (if 0 ≤ t216 then (if t216 < (x5.length : Int) then (if 0 ≤ t217 then (if t217 < (x6.length : Int) then (impl_search.l1 k (x5.set (t216 : Int).toNat 0) (x6.set (t217 : Int).toNat 1) (([x0] : List ByteArray)) 0) else (none)) else (none)) else (none)) else (none))))
def impl_search.l1 : Nat → List Int → List Int → List ByteArray → Int → Option (List Int × List Int × List ByteArray)
 | 0, _, _, _, _ => none
 | k + 1, x5, x6, x8, x9 => if x9 < (x8.length : Int) then (if 0 ≤ x9 then ((impl_number.f k (rdOf ByteArray.empty x8 x9)).bind fun t224 => ((impl_pairMoves.f k (rdOf ByteArray.empty x8 x9)).bind fun t226 => (impl_search.l2 k x5 x6 x8 x9 t224 t226 (t226.length : Int) 0))) else (none)) else (some (x5, x6, x8))
def impl_search.l2 : Nat → List Int → List Int → List ByteArray → Int → Int → List Int → Int → Int → Option (List Int × List Int × List ByteArray)
 | 0, _, _, _, _, _, _, _, _ => none
 | k + 1, x5, x6, x8, x9, x10, x57, x58, x59 => if x59 < x58 then (if 0 ≤ x59 then (if x59 < (x57.length : Int) then (if 0 ≤ x9 then (if x9 < (x8.length : Int) then ((impl_paired.f (rdOf ByteArray.empty x8 x9) (rd x57 x59)).bind fun t231 => ((impl_number.f k t231).bind fun t232 => (if 0 ≤ t232 then (if t232 < (x5.length : Int) then (if (rd x5 t232) < 0 then (if 0 ≤ x10 then (if x10 < (x5.length : Int) then ((some (x5.set (t232 : Int).toNat (wrap64 ((rd x5 x10) + 1)) : List Int)).bind fun y235 => (if x8.length < 8796093022208 then ((some (x8 ++ [t231] : List ByteArray)).bind fun y236 => (if (rd y235 t232) = (wrap64 ((rd y235 x10) + 1)) then (if t232 < (x6.length : Int) then (if x10 < (x6.length : Int) then (impl_search.l2 k y235 (x6.set (t232 : Int).toNat (wrap64 ((rd x6 t232) + (rd x6 x10)))) y236 x9 x10 x57 x58 (wrap64 (x59 + 1))) else (none)) else (none)) else (impl_search.l2 k y235 x6 y236 x9 x10 x57 x58 (wrap64 (x59 + 1))))) else (none))) else (none)) else (none)) else (if 0 ≤ x10 then (if x10 < (x5.length : Int) then (if (rd x5 t232) = (wrap64 ((rd x5 x10) + 1)) then (if t232 < (x6.length : Int) then (if x10 < (x6.length : Int) then (impl_search.l2 k x5 (x6.set (t232 : Int).toNat (wrap64 ((rd x6 t232) + (rd x6 x10)))) x8 x9 x10 x57 x58 (wrap64 (x59 + 1))) else (none)) else (none)) else (impl_search.l2 k x5 x6 x8 x9 x10 x57 x58 (wrap64 (x59 + 1)))) else (none)) else (none))) else (none)) else (none)))) else (none)) else (none)) else (none)) else (none)) else (impl_search.l1 k x5 x6 x8 (wrap64 (x9 + 1)))
end
def impl_search.f (k : Nat) (a0 : ByteArray) : Option (List Int × List Int × List ByteArray) := if 0 ≤ (shl .i64 1 (a0.size : Int)) then (if (shl .i64 1 (a0.size : Int) : Int).toNat ≤ 35184372088832 then ((some (List.replicate (shl .i64 1 (a0.size : Int) : Int).toNat 0 : List Int)).bind fun y209 => (impl_search.l0 k a0 y209 (List.replicate (shl .i64 1 (a0.size : Int) : Int).toNat 0) (y209.length : Int) 0)) else (none)) else (none)
theorem impl_search.mono_l : ∀ k, (∀ y0 y1 y2 y3 y4, LeO (impl_search.l0 k y0 y1 y2 y3 y4) (impl_search.l0 (k + 1) y0 y1 y2 y3 y4)) ∧ (∀ y0 y1 y2 y3, LeO (impl_search.l1 k y0 y1 y2 y3) (impl_search.l1 (k + 1) y0 y1 y2 y3)) ∧ (∀ y0 y1 y2 y3 y4 y5 y6 y7, LeO (impl_search.l2 k y0 y1 y2 y3 y4 y5 y6 y7) (impl_search.l2 (k + 1) y0 y1 y2 y3 y4 y5 y6 y7))
 | 0 => ⟨fun _ _ _ _ _ r h => by simp [impl_search.l0] at h, fun _ _ _ _ r h => by simp [impl_search.l1] at h, fun _ _ _ _ _ _ _ _ r h => by simp [impl_search.l2] at h⟩
 | k + 1 => by
  obtain ⟨ih0, ih1, ih2⟩ := impl_search.mono_l k
  refine ⟨?_, ?_, ?_⟩
  ·intro y0 y1 y2 y3 y4
   unfold impl_search.l0
   repeat' first
   | (with_reducible exact ih0 _ _ _ _ _)
   | (with_reducible exact ih1 _ _ _ _)
   | (with_reducible exact ih2 _ _ _ _ _ _ _ _)
   | (with_reducible exact impl_number.mono _ _)
   | (with_reducible exact impl_pairMoves.mono _ _)
   | (with_reducible exact LeO.refl _)
   | (with_reducible exact LeO.none _)
   | (with_reducible refine LeO.ite ?_ ?_)
   | (with_reducible refine LeO.bind ?_ (fun _ => ?_))
   | exact ih0 _ _ _ _ _
   | exact ih1 _ _ _ _
   | exact ih2 _ _ _ _ _ _ _ _
   | exact impl_number.mono _ _
   | exact impl_pairMoves.mono _ _
   | exact LeO.none _
   | refine LeO.ite ?_ ?_
   | refine LeO.bind ?_ (fun _ => ?_)
  ·intro y0 y1 y2 y3
   unfold impl_search.l1
   repeat' first
   | (with_reducible exact ih0 _ _ _ _ _)
   | (with_reducible exact ih1 _ _ _ _)
   | (with_reducible exact ih2 _ _ _ _ _ _ _ _)
   | (with_reducible exact impl_number.mono _ _)
   | (with_reducible exact impl_pairMoves.mono _ _)
   | (with_reducible exact LeO.refl _)
   | (with_reducible exact LeO.none _)
   | (with_reducible refine LeO.ite ?_ ?_)
   | (with_reducible refine LeO.bind ?_ (fun _ => ?_))
   | exact ih0 _ _ _ _ _
   | exact ih1 _ _ _ _
   | exact ih2 _ _ _ _ _ _ _ _
   | exact impl_number.mono _ _
   | exact impl_pairMoves.mono _ _
   | exact LeO.none _
   | refine LeO.ite ?_ ?_
   | refine LeO.bind ?_ (fun _ => ?_)
  ·intro y0 y1 y2 y3 y4 y5 y6 y7
   unfold impl_search.l2
   repeat' first
   | (with_reducible exact ih0 _ _ _ _ _)
   | (with_reducible exact ih1 _ _ _ _)
   | (with_reducible exact ih2 _ _ _ _ _ _ _ _)
   | (with_reducible exact impl_number.mono _ _)
   | (with_reducible exact impl_pairMoves.mono _ _)
   | (with_reducible exact LeO.refl _)
   | (with_reducible exact LeO.none _)
   | (with_reducible refine LeO.ite ?_ ?_)
   | (with_reducible refine LeO.bind ?_ (fun _ => ?_))
   | exact ih0 _ _ _ _ _
   | exact ih1 _ _ _ _
   | exact ih2 _ _ _ _ _ _ _ _
   | exact impl_number.mono _ _
   | exact impl_pairMoves.mono _ _
   | exact LeO.none _
   | refine LeO.ite ?_ ?_
   | refine LeO.bind ?_ (fun _ => ?_)
theorem impl_search.mono : ∀ a0 k, LeO (impl_search.f k a0) (impl_search.f (k + 1) a0) := by
 intro a0 k
 obtain ⟨ih0, ih1, ih2⟩ := impl_search.mono_l k
 unfold impl_search.f
 repeat' first
   | (with_reducible exact ih0 _ _ _ _ _)
   | (with_reducible exact ih1 _ _ _ _)
   | (with_reducible exact ih2 _ _ _ _ _ _ _ _)
   | (with_reducible exact impl_number.mono _ _)
   | (with_reducible exact impl_pairMoves.mono _ _)
   | (with_reducible exact LeO.refl _)
   | (with_reducible exact LeO.none _)
   | (with_reducible refine LeO.ite ?_ ?_)
   | (with_reducible refine LeO.bind ?_ (fun _ => ?_))
   | exact ih0 _ _ _ _ _
   | exact ih1 _ _ _ _
   | exact ih2 _ _ _ _ _ _ _ _
   | exact impl_number.mono _ _
   | exact impl_pairMoves.mono _ _
   | exact LeO.none _
   | refine LeO.ite ?_ ?_
   | refine LeO.bind ?_ (fun _ => ?_)
def impl_search.T1 : Bool × List (List Nat × List Nat) := (true, [([], []), ([0], [0]), ([1], [1]), ([2, 2], [2]), ([], []), ([4], [4]), ([5], [5]), ([6, 6], [6]), ([3, 0, 1, 2, 3], [3]), ([7, 8, 0, 1, 2, 3, 4, 5, 6, 7, 8], [7])])
def impl_search.B1 : List Nat := [0, 1, 3, 7, 0, 16, 48, 112, 15, 511]
theorem impl_search.tab1 : rtab .any (opsOf Tryz.f27 1) = impl_search.T1 := by kernel_rfl
theorem impl_search.bits1 : waitsOk impl_search.T1.2 impl_search.B1 = true := by kernel_rfl
def impl_search.T21 : Bool × List (List Nat × List Nat) := (true, [([], []), ([], []), ([0, 1], [0, 1]), ([2], [2]), ([], []), ([], []), ([4, 5], [4, 5]), ([6], [6]), ([7], [7]), ([3, 8], [3, 8])])
def impl_search.B21 : List Nat := [0, 0, 3, 7, 0, 0, 48, 112, 240, 511]
theorem impl_search.tab21 : rtab .any (opsOf Tryz.f27 21) = impl_search.T21 := by kernel_rfl
theorem impl_search.bits21 : waitsOk impl_search.T21.2 impl_search.B21 = true := by kernel_rfl
def impl_search.T22 : Bool × List (List Nat × List Nat) := (true, [([], []), ([], []), ([0, 1], [0, 1]), ([2], [2]), ([], []), ([], []), ([4, 5], [4, 5]), ([6], [6]), ([3, 7], [3, 7]), ([0, 1, 0, 1, 2, 3, 4, 5, 6, 7, 8], [0, 1]), ([9, 8, 0, 1, 2, 3, 4, 5, 6, 7, 8], [8, 9])])
def impl_search.B22 : List Nat := [0, 0, 3, 7, 0, 0, 48, 112, 255, 511, 1023]
theorem impl_search.tab22 : rtab .any (opsOf Tryz.f27 22) = impl_search.T22 := by kernel_rfl
theorem impl_search.bits22 : waitsOk impl_search.T22.2 impl_search.B22 = true := by kernel_rfl
set_option maxHeartbeats 8000000 in
set_option maxRecDepth 100000 in
theorem impl_search.calls (k : Nat) (a0 : ByteArray) (r1 : List Int) (r2 : List Int) (r3 : List ByteArray) (w : World) (h : impl_search.f k a0 = some (r1, r2, r3)) :
  Calls Tryz.prog 27 #[.string a0] w fun e w' => ∃ v0_ v1_ v2_ : Value, e = .returned (.tuple #[v0_, v1_, v2_]) ∧ Kd.R (Kd.int .i64) 3 w' w.heap.size (fun k_ => some k_ ≠ (v1_ : Value).ownBlock) v0_ r1 ∧ Kd.R (Kd.int .i64) 3 w' w.heap.size (fun k_ => some k_ ≠ (v0_ : Value).ownBlock) v1_ r2 ∧ Kd.R Kd.string 9 w' w.heap.size (fun _ => True) v2_ r3 ∧ Below w.heap.size w w' := by
 have HB := aM (Below.refl w.heap.size w)
 have H : (if 0 ≤ (shl .i64 1 (a0.size : Int)) then (if (shl .i64 1 (a0.size : Int) : Int).toNat ≤ 35184372088832 then ((some (List.replicate (shl .i64 1 (a0.size : Int) : Int).toNat 0 : List Int)).bind fun y209 => (impl_search.l0 k a0 y209 (List.replicate (shl .i64 1 (a0.size : Int) : Int).toNat 0) (y209.length : Int) 0)) else (none)) else (none)) = some (r1, r2, r3) := h
 clear h
 obtain ⟨ji2, hji2⟩ : ∃ j_ : Int, (shl .i64 1 (a0.size : Int)) = j_ := ⟨_, rfl⟩
 replace H : (if 0 ≤ (ji2) then (if (ji2 : Int).toNat ≤ 35184372088832 then ((some (List.replicate (ji2 : Int).toNat 0 : List Int)).bind fun y209 => (impl_search.l0 k a0 y209 (List.replicate (ji2 : Int).toNat 0) (y209.length : Int) 0)) else (none)) else (none)) = some (r1, r2, r3) := by first | (rw [hji2] at H; exact H) | (simp only [hji2] at H ⊢; exact H)
 have hji2_ : (IntKind.i64.wrap (1 * 2 ^ min (a0.size : Int).toNat 64)) = ji2 := hji2
 have hji2z : (a0.size : Int) ≤ 64 → (IntKind.i64.wrap (1 * 2 ^ (a0.size : Int).toNat)) = ji2 := shl_small hji2
 have hji2p : (IntKind.i64.wrap (1 * 2 ^ min a0.size 64)) = ji2 := hji2_
 have hji2q : (a0.size : Int) ≤ 64 → (IntKind.i64.wrap (1 * 2 ^ a0.size)) = ji2 := hji2z
 have hji2r : (IntKind.i64.wrap (2 ^ min a0.size 64)) = ji2 := by have h_ := hji2p; rw [Int.one_mul] at h_; exact h_
 have hji2s : (a0.size : Int) ≤ 64 → (IntKind.i64.wrap (2 ^ a0.size)) = ji2 := fun hle_ => by have h_ := hji2q hle_; rw [Int.one_mul] at h_; exact h_
 have hji2u : (IntKind.i64.wrap (2 ^ min (a0.size : Int).toNat 64)) = ji2 := by have h_ := hji2_; rw [Int.one_mul] at h_; exact h_
 have hji2v : (a0.size : Int) ≤ 64 → (IntKind.i64.wrap (2 ^ (a0.size : Int).toNat)) = ji2 := fun hle_ => by have h_ := hji2z hle_; rw [Int.one_mul] at h_; exact h_
 have hji2y : (wrap64 (1 * 2 ^ min (a0.size : Int).toNat 64)) = ji2 := (i64_w _).symm.trans hji2_
 have hji2x : (a0.size : Int) ≤ 64 → (wrap64 (1 * 2 ^ (a0.size : Int).toNat)) = ji2 := fun h_ => (i64_w _).symm.trans (hji2z h_)
 by_cases c3 : 0 ≤ (ji2)
 ·rw [if_pos c3] at H
  have c3b0 := eq_true c3
  have c3b1 : decide (0 ≤ (ji2)) = true := decide_eq_true c3
  clear c3
  by_cases c4 : (ji2 : Int).toNat ≤ 35184372088832
  ·rw [if_pos c4] at H
   have c4b0 := eq_true c4
   have c4b1 : decide ((ji2 : Int).toNat ≤ 35184372088832) = true := decide_eq_true c4
   clear c4
   obtain ⟨y209, hy209⟩ : ∃ y_ : List Int, y_ = (List.replicate (ji2 : Int).toNat 0) := ⟨_, rfl⟩
   replace H : (impl_search.l0 k a0 y209 (List.replicate (ji2 : Int).toNat 0) (y209.length : Int) 0) = some (r1, r2, r3) := by first | (rw [hy209]; with_reducible exact H) | (have H2_ := (Option.bind_some _ _).symm.trans H; rw [hy209]; with_reducible exact H2_) | (have H2_ := (Option.bind_some _ _).symm.trans H; with_reducible exact H2_) | with_reducible exact H | (rw [hy209]; exact H) | exact H
   have Ny209 := aM hy209
   clear hy209
   obtain ⟨y212, hy212⟩ : ∃ y_ : List Int, y_ = (List.replicate (ji2 : Int).toNat 0) := ⟨_, rfl⟩
   replace H : (impl_search.l0 k a0 y209 y212 (y209.length : Int) 0) = some (r1, r2, r3) := by first | (rw [hy212]; with_reducible exact H) | (have H2_ := (Option.bind_some _ _).symm.trans H; rw [hy212]; with_reducible exact H2_) | (have H2_ := (Option.bind_some _ _).symm.trans H; with_reducible exact H2_) | with_reducible exact H | (rw [hy212]; exact H) | exact H
   have Ny212 := aM hy212
   clear hy212
   have H' := aM H
   clear H
   go_enter Tryz.func27, Tryz.ntmps27
   try go_wp2
   have n0_ := aM (below_drew1 HB.out)
   clear HB
   have HB := n0_
   clear n0_
   refine start_ (n := 10) (S := fun w' => True) (ds := []) #[F,F,F,F,F,F,F,F,F,F] (by kernel_rfl) rfl rfl trivial (fun hHeld => ?_); refine with_tabW impl_search.tab1 impl_search.bits1 (fun HT_ HW_ => ?_)
   generalize w.drew = w5 at HB hHeld ⊢
   refine pure_ (i := 0) (N := some 15) (v := ?_) (a' := ?_) #[T,F,F,F,F,F,F,F,F,F] rfl rfl (any_of HT_.out (by kernel_rfl)) (fun _ _ _ h => h) (Or.inl ⟨by rfl, ?_⟩) ?_ ?_; rotate_left; (next => intro w'; go_simp; with_reducible rfl); rotate_left; next => simp only [Act.put, sA, sB, sC, i64_w, i32_w]; rfl
   refine pure_ (i := 1) (N := some 16) (v := ?_) (a' := ?_) #[T,T,F,F,F,F,F,F,F,F] rfl rfl (any_of HT_.out (by kernel_rfl)) (fun _ _ _ h => h) (Or.inl ⟨by rfl, ?_⟩) ?_ ?_; rotate_left; (next => intro w'; go_simp; with_reducible rfl); rotate_left; next => simp only [Act.put, sA, sB, sC, i64_w, i32_w]; rfl
   refine pure_ (i := 2) (N := some 17) (v := ?_) (a' := ?_) #[T,T,T,F,F,F,F,F,F,F] rfl rfl (any_of HT_.out (by kernel_rfl)) (fun _ _ _ h => h) (Or.inl ⟨by rfl, ?_⟩) ?_ ?_; rotate_left; (next => intro w'; go_simp; with_reducible rfl); rotate_left; next => simp only [Act.put, sA, sB, sC, i64_w, i32_w]; rfl
   refine pure_ (i := 4) (N := some 19) (v := ?_) (a' := ?_) #[T,T,T,F,T,F,F,F,F,F] rfl rfl (any_of HT_.out (by kernel_rfl)) (fun _ _ _ h => h) (Or.inl ⟨by rfl, ?_⟩) ?_ ?_; rotate_left; (next => intro w'; go_simp; with_reducible rfl); rotate_left; next => simp only [Act.put, sA, sB, sC, i64_w, i32_w]; rfl
   refine pure_ (i := 5) (N := some 20) (v := ?_) (a' := ?_) #[T,T,T,F,T,T,F,F,F,F] rfl rfl (any_of HT_.out (by kernel_rfl)) (fun _ _ _ h => h) (Or.inl ⟨by rfl, ?_⟩) ?_ ?_; rotate_left; (next => intro w'; go_simp; with_reducible rfl); rotate_left; next => simp only [Act.put, sA, sB, sC, i64_w, i32_w]; rfl
   refine pure_ (i := 6) (N := some 21) (v := ?_) (a' := ?_) #[T,T,T,F,T,T,T,F,F,F] rfl rfl (any_of HT_.out (by kernel_rfl)) (fun _ _ _ h => h) (Or.inl ⟨by rfl, ?_⟩) ?_ ?_; rotate_left; (next => intro w'; go_simp; with_reducible rfl); rotate_left; next => simp only [Act.put, sA, sB, sC, i64_w, i32_w]; rfl
   refine join_ (σ := Value × Value) 1 #[T,T,T,T,T,T,T,T,T,F] (fun s_ => [(18, s_.1), (22, s_.2), (5, s_.1)]) (fun s_ w' => (Kd.R (Kd.int .i64) 3 w' w.heap.size (fun k_ => some k_ ≠ (s_.2 : Value).ownBlock) s_.1 y209) ∧ (Kd.R (Kd.int .i64) 3 w' w.heap.size (fun k_ => some k_ ≠ (s_.1 : Value).ownBlock) s_.2 y212) ∧ (Below w.heap.size w w')) ?_ ?_
   rotate_left
   ·intro hCont
    refine two_ (i := 3) (j := 7) (Ni := some 18) (Nj := some 22) #[T,T,T,T,T,T,T,F,F,F] #[T,T,T,F,T,T,T,T,F,F] rfl rfl rfl rfl (two_of HT_.out (by kernel_rfl)) (by decide) (by decide) (fun K hK => ?_) (fun K hK => ?_)
    ·skip
     refine Kd.R_make_step (Kd.int .i64) _ 3 (by rfl) (N := 18) rfl 48 _ _ rfl ji2 rfl rfl Tryz.underlying48 (.int .i64 0) 8 info3 rfl (by decide) (by omega) 0 (ok := fun _ => True) (okp := fun _ => True) rfl (fun _ hk => hk) trivial (of_decide_eq_true (by first | (with_reducible assumption) | assumption)) (Nat.le_trans (Nat.mul_le_mul_right _ (of_decide_eq_true (by first | (with_reducible assumption) | assumption) : ji2.toNat ≤ 35184372088832)) (by omega)) (Below.refl _ _) (Nat.le_refl _) ?_
     intro v210 w6 ho7 hb hg_ hnew_
     clear hg_ hnew_
     (first | rw [← Ny209.out] at ho7 | (simp only [Int.reduceToNat] at ho7; rw [← Ny209.out] at ho7))
     have n0_ := aM (Kd.R_lower ho7 (below_size (by repeat (first | (with_reducible first | exact HB.out | apply bA | apply bN | apply bD) | exact HB.out))))
     have n1_ := aM (below_step (by repeat (first | (with_reducible first | exact HB.out | apply bA | apply bN | apply bD) | exact HB.out)) hb)
     clear HB
     have HO211 := n0_
     have HB := n1_
     clear n0_ n1_
     clear hb ho7
     refine hK.out _ _ trivial (fun hHeld => ?_)
     clear hK K
     refine norm_ (a' := ?_) ?_ ?_
     rotate_left
     ·show Act.put _ (some 18) _ = _
      simp only [Act.put, sA, sB, sC, i64_w, i32_w]
      rfl
     refine pure_ (i := 8) (N := some 5) (v := ?_) (a' := ?_) #[T,T,T,T,T,T,T,F,T,F] rfl rfl (any_of HT_.out (by kernel_rfl)) (fun _ _ _ h => h) (Or.inl ⟨by rfl, ?_⟩) ?_ ?_; rotate_left; (next => intro w'; go_simp; with_reducible rfl); rotate_left; next => simp only [Act.put, sA, sB, sC, i64_w, i32_w]; rfl
     refine one_ (i := 7) (N := some 22) #[T,T,T,T,T,T,T,T,T,F] rfl rfl (one_of HT_.out (by kernel_rfl)) (by decide) (fun K hK => ?_)
     refine Kd.R_make_step (Kd.int .i64) _ 3 (by rfl) (N := 22) rfl 48 _ _ rfl ji2 rfl rfl Tryz.underlying48 (.int .i64 0) 8 info3 rfl (by decide) (by omega) 0 (ok := fun _ => True) (okp := fun _ => True) rfl (fun _ hk => hk) trivial (of_decide_eq_true (by first | (with_reducible assumption) | assumption)) (Nat.le_trans (Nat.mul_le_mul_right _ (of_decide_eq_true (by first | (with_reducible assumption) | assumption) : ji2.toNat ≤ 35184372088832)) (by omega)) (Below.refl _ _) (Nat.le_refl _) ?_
     intro v213 w8 ho9 hb hg_ hnew_
     clear hg_ hnew_
     (first | rw [← Ny212.out] at ho9 | (simp only [Int.reduceToNat] at ho9; rw [← Ny212.out] at ho9))
     have n0_ := aM (Kd.R_elder' (by (with_reducible repeat (first | apply rA | apply rN | apply rD)); exact HO211.out) (Kd.R_base ho9) hb)
     have n1_ := aM (Kd.R_lower (Kd.R_new' ho9 (Kd.R_lt (by (with_reducible repeat (first | apply rA | apply rN | apply rD)); exact HO211.out))) (below_size (by repeat (first | (with_reducible first | exact HB.out | apply bA | apply bN | apply bD) | exact HB.out))))
     have n2_ := aM (below_step (by repeat (first | (with_reducible first | exact HB.out | apply bA | apply bN | apply bD) | exact HB.out)) hb)
     clear HO211 HB
     have HO211 := n0_
     have HO214 := n1_
     have HB := n2_
     clear n0_ n1_ n2_
     clear hb ho9
     refine hK.out _ _ trivial (fun hHeld => ?_)
     clear hK K
     refine norm_ (a' := ?_) ?_ ?_
     rotate_left
     ·show Act.put _ (some 22) _ = _
      simp only [Act.put, sA, sB, sC, i64_w, i32_w]
      rfl
     exact norm_ (by simp only [putAll, Act.put, sA, sB, sC]) (hCont (v210, v213) _ ⟨(by (with_reducible repeat (first | apply rA | apply rN | apply rD)); exact Kd.R_mono HO211.out (fun _ hk => hk.2)), (by (with_reducible repeat (first | apply rA | apply rN | apply rD)); exact Kd.R_mono HO214.out (fun _ hk => hk.2)), (by repeat (first | (with_reducible first | exact HB.out | apply bA | apply bN | apply bD) | exact HB.out))⟩)
    ·skip
     refine Kd.R_make_step (Kd.int .i64) _ 3 (by rfl) (N := 22) rfl 48 _ _ rfl ji2 rfl rfl Tryz.underlying48 (.int .i64 0) 8 info3 rfl (by decide) (by omega) 0 (ok := fun _ => True) (okp := fun _ => True) rfl (fun _ hk => hk) trivial (of_decide_eq_true (by first | (with_reducible assumption) | assumption)) (Nat.le_trans (Nat.mul_le_mul_right _ (of_decide_eq_true (by first | (with_reducible assumption) | assumption) : ji2.toNat ≤ 35184372088832)) (by omega)) (Below.refl _ _) (Nat.le_refl _) ?_
     intro v213 w6 ho7 hb hg_ hnew_
     clear hg_ hnew_
     (first | rw [← Ny212.out] at ho7 | (simp only [Int.reduceToNat] at ho7; rw [← Ny212.out] at ho7))
     have n0_ := aM (Kd.R_lower ho7 (below_size (by repeat (first | (with_reducible first | exact HB.out | apply bA | apply bN | apply bD) | exact HB.out))))
     have n1_ := aM (below_step (by repeat (first | (with_reducible first | exact HB.out | apply bA | apply bN | apply bD) | exact HB.out)) hb)
     clear HB
     have HO214 := n0_
     have HB := n1_
     clear n0_ n1_
     clear hb ho7
     refine hK.out _ _ trivial (fun hHeld => ?_)
     clear hK K
     refine norm_ (a' := ?_) ?_ ?_
     rotate_left
     ·show Act.put _ (some 22) _ = _
      simp only [Act.put, sA, sB, sC, i64_w, i32_w]
      rfl
     refine one_ (i := 3) (N := some 18) #[T,T,T,T,T,T,T,T,F,F] rfl rfl (one_of HT_.out (by kernel_rfl)) (by decide) (fun K hK => ?_)
     refine Kd.R_make_step (Kd.int .i64) _ 3 (by rfl) (N := 18) rfl 48 _ _ rfl ji2 rfl rfl Tryz.underlying48 (.int .i64 0) 8 info3 rfl (by decide) (by omega) 0 (ok := fun _ => True) (okp := fun _ => True) rfl (fun _ hk => hk) trivial (of_decide_eq_true (by first | (with_reducible assumption) | assumption)) (Nat.le_trans (Nat.mul_le_mul_right _ (of_decide_eq_true (by first | (with_reducible assumption) | assumption) : ji2.toNat ≤ 35184372088832)) (by omega)) (Below.refl _ _) (Nat.le_refl _) ?_
     intro v210 w8 ho9 hb hg_ hnew_
     clear hg_ hnew_
     (first | rw [← Ny209.out] at ho9 | (simp only [Int.reduceToNat] at ho9; rw [← Ny209.out] at ho9))
     have n0_ := aM (Kd.R_elder' (by (with_reducible repeat (first | apply rA | apply rN | apply rD)); exact HO214.out) (Kd.R_base ho9) hb)
     have n1_ := aM (Kd.R_lower (Kd.R_new' ho9 (Kd.R_lt (by (with_reducible repeat (first | apply rA | apply rN | apply rD)); exact HO214.out))) (below_size (by repeat (first | (with_reducible first | exact HB.out | apply bA | apply bN | apply bD) | exact HB.out))))
     have n2_ := aM (below_step (by repeat (first | (with_reducible first | exact HB.out | apply bA | apply bN | apply bD) | exact HB.out)) hb)
     clear HO214 HB
     have HO214 := n0_
     have HO211 := n1_
     have HB := n2_
     clear n0_ n1_ n2_
     clear hb ho9
     refine hK.out _ _ trivial (fun hHeld => ?_)
     clear hK K
     refine norm_ (a' := ?_) ?_ ?_
     rotate_left
     ·show Act.put _ (some 18) _ = _
      simp only [Act.put, sA, sB, sC, i64_w, i32_w]
      rfl
     refine pure_ (i := 8) (N := some 5) (v := ?_) (a' := ?_) #[T,T,T,T,T,T,T,T,T,F] rfl rfl (any_of HT_.out (by kernel_rfl)) (fun _ _ _ h => h) (Or.inl ⟨by rfl, ?_⟩) ?_ ?_; rotate_left; (next => intro w'; go_simp; with_reducible rfl); rotate_left; next => simp only [Act.put, sA, sB, sC, i64_w, i32_w]; rfl
     exact norm_ (by simp only [putAll, Act.put, sA, sB, sC]) (hCont (v210, v213) _ ⟨(by (with_reducible repeat (first | apply rA | apply rN | apply rD)); exact Kd.R_mono HO211.out (fun _ hk => hk.2)), (by (with_reducible repeat (first | apply rA | apply rN | apply rD)); exact Kd.R_mono HO214.out (fun _ hk => hk.2)), (by repeat (first | (with_reducible first | exact HB.out | apply bA | apply bN | apply bD) | exact HB.out))⟩)
   rintro ⟨v210, v213⟩ w10 ⟨h0_, h1_, h2_⟩
   have n0_ : Aside0 (Kd.R (Kd.int .i64) 3 w10 w.heap.size (fun k_ => some k_ ≠ (v213 : Value).ownBlock) v210 y209) := ⟨h0_⟩
   have n1_ : Aside0 (Kd.R (Kd.int .i64) 3 w10 w.heap.size (fun k_ => some k_ ≠ (v210 : Value).ownBlock) v213 y212) := ⟨h1_⟩
   have n2_ : Aside0 (Below w.heap.size w w10) := ⟨h2_⟩
   clear HB
   clear h0_ h1_ h2_
   have HO211 := n0_
   have HO214 := n1_
   have HB := n2_
   clear n0_ n1_ n2_
   have hHeld := trivial
   refine norm_ (a' := ?_) ?_ ?_
   rotate_left
   ·simp only [putAll, Act.put, sA, sB, sC]
    rfl
   refine pure_ (i := 9) (N := some 6) (v := ?_) (a' := ?_) #[T,T,T,T,T,T,T,T,T,T] rfl rfl (any_of HT_.out (by kernel_rfl)) (fun _ _ _ h => h) (Or.inl ⟨by rfl, ?_⟩) ?_ ?_; rotate_left; (next => intro w'; go_simp; with_reducible rfl); rotate_left; next => simp only [Act.put, sA, sB, sC, i64_w, i32_w]; rfl
   refine done_ (done_of HT_.out (by kernel_rfl)) ?_
   obtain ⟨Ao11, co11, eo11⟩ := Kd.R_slice HO211.out
   subst eo11
   try go_wp2
   go_loopg [25] k (fun kq v25 w' => ∃ (x5_1 : List Int) (x25_1 : Int), v25 = .int .i64 x25_1 ∧ Aside0 (impl_search.l0 kq a0 x5_1 y212 (y209.length : Int) x25_1 = some (r1, r2, r3)) ∧ Aside0 (kq ≤ k) ∧ Aside0 (Kd.R (Kd.int .i64) 3 w' w.heap.size (fun k_ => some k_ ≠ (v213 : Value).ownBlock) (.slice Ao11 y209.length co11) x5_1) ∧ Aside0 (Kd.R (Kd.int .i64) 3 w' w.heap.size (fun k_ => some k_ ≠ ((.slice Ao11 y209.length co11) : Value).ownBlock) v213 y212) ∧ Aside0 (Below w.heap.size w w'))
   case atStart => exact ⟨(y209), (0), (by first | rfl | (simp; done) | (simp [*]; done)), H', ⟨Nat.le_refl _⟩, ⟨by (with_reducible repeat (first | apply rA | apply rN | apply rD)); exact HO211.out⟩, ⟨by (with_reducible repeat (first | apply rA | apply rN | apply rD)); exact HO214.out⟩, ⟨by repeat (first | (with_reducible first | exact HB.out | apply bA | apply bN | apply bD) | exact HB.out)⟩⟩
   case round =>
    clear H'
    try clear c2
    try clear p2
    try clear c3
    try clear c3b0
    try clear c3b1
    try clear c4
    try clear c4b0
    try clear c4b1
    try clear p6
    obtain ⟨x5_1, x25_1, rfl, HA, HK1, HO_5, HO_6, HB⟩ := hrel
    have hl5_1 := (Kd.R_reads' HO_5.out).1
    rw [hl5_1] at HO_5
    (try simp only [hl5_1])
    (try simp only [hl5_1] at HO_6)
    cases gk with
    | zero => exact absurd HA.out (by simp [impl_search.l0])
    | succ k1 =>
     have H := HA.out
     clear HA
     simp only [impl_search.l0] at H
     by_cases c12 : x25_1 < (y209.length : Int)
     ·rw [if_pos c12] at H
      have c12b0 : decide (x25_1 < (y209.length : Int)) = true := decide_eq_true c12
      (try (have c12m0 := c12b0; simp only [hl5_1] at c12m0))
      clear c12
      by_cases c13 : 0 ≤ x25_1
      ·rw [if_pos c13] at H
       have c13b0 : decide (0 ≤ x25_1) = true := decide_eq_true c13
       clear c13
       by_cases c14 : x25_1 < (x5_1.length : Int)
       ·rw [if_pos c14] at H
        have c14b0 : decide (x25_1 < (x5_1.length : Int)) = true := decide_eq_true c14
        (try (have c14m0 := c14b0; simp only [hl5_1] at c14m0))
        clear c14
        obtain ⟨y215, hy215⟩ : ∃ y_ : List Int, y_ = (x5_1.set (x25_1 : Int).toNat (-1)) := ⟨_, rfl⟩
        replace H : (impl_search.l0 k1 a0 y215 y212 (y209.length : Int) (wrap64 (x25_1 + 1))) = some (r1, r2, r3) := by first | (rw [hy215]; with_reducible exact H) | (have H2_ := (Option.bind_some _ _).symm.trans H; rw [hy215]; with_reducible exact H2_) | (have H2_ := (Option.bind_some _ _).symm.trans H; with_reducible exact H2_) | with_reducible exact H | (rw [hy215]; exact H) | exact H
        have Ny215 := aM hy215
        clear hy215
        have H' := aM H
        clear H
        have p15 : 0 ≤ (x25_1 : Int) := of_decide_eq_true (by first | (with_reducible assumption) | assumption)
        have q15 : (x25_1 : Int) < ((x5_1.length : Int) : Int) := of_decide_eq_true (by first | (with_reducible assumption) | assumption)
        obtain ⟨go15, co15, eo15, gb15, gl15, cl15, HG15⟩ := Kd.R_form HO_5.out (by omega)
        (first | cases eo15 | (injection eo15 with ea_ en_ ec_; (first | subst ea_ | (injection ea_ with ea_; subst ea_)); subst ec_; clear en_))
        have GB15 := aM gb15
        have GG15 := aM HG15
        clear gb15 gl15 HG15
        obtain ⟨hx15_0, hf15_0⟩ := Kd.R_celln 0 HO_5.out (x25_1 : Int) p15 q15
        replace p15 := eq_true p15
        replace q15 := eq_true q15
        have HP16 := Kd.R_putg HO_5.out (x25_1 : Int) (-1)
        go_wp2_with (first | ((with_reducible refine gate_store (t := 3) (p := 30) rfl ?_); refine store_event (t := 3) (p := 30) (v := ?vo_w17) (w1 := (wr.setCell ⟨go15, (x25_1 : Int).toNat, none⟩ (.int .i64 (-1)))) ?hg ?ho ?hn ?hr ?_; (case ho => rfl); (case hg => rfl); (case hn => rfl); (case hr => first | (go_simp; done) | (go_simp; rfl)); intro w17 hw; have hg : wr.grownBy w17 (some go15) := (by rw [hw]; exact HP16.2); have hp_ : Kd.R (Kd.int .i64) 3 w17 w.heap.size (fun k_ => some k_ ≠ (v213 : Value).ownBlock) (.slice (some ⟨go15, 0, none⟩) x5_1.length co11) y215 := (by rw [hw, Ny215.out]; exact HP16.1); clear HP16; have n0_ := aM (hp_); have n1_ := aM (Kd.R_after (v := (.slice (some ⟨go15, 0, none⟩) x5_1.length co11)) (v1 := (.slice (some ⟨go15, 0, none⟩) x5_1.length co11)) (ok := (fun _ => True)) (by (with_reducible repeat (first | apply rA | apply rN | apply rD)); exact Kd.R_mono HO_6.out (fun _ hk => ⟨trivial, hk⟩)) hg (.inl rfl)); have n2_ := aM ((by rw [hw]; exact below_set (HB.out) GB15.out : Below w.heap.size w w17)); clear HO_5; clear HO_6; clear HB; have HO_5 := n0_; have HO_6 := n1_; have HB := n2_; clear n0_ n1_ n2_; clear hg hw hp_))
        (try simp only [← hl5_1])
        go_roundg k1
        case measure => have := HK1.out; omega
        case rel => exact ⟨(y215), (wrap64 (x25_1 + 1)), (by first | rfl | (simp; done) | (simp [*]; done)), H', ⟨by have := HK1.out; omega⟩, ⟨by (try simp only [hl5_1]); (with_reducible repeat (first | apply rA | apply rN | apply rD)); exact HO_5.out⟩, ⟨by (try simp only [hl5_1]); (with_reducible repeat (first | apply rA | apply rN | apply rD)); exact Kd.R_mono HO_6.out (fun _ hk => hk.2)⟩, ⟨by repeat (first | (with_reducible first | exact HB.out | apply bA | apply bN | apply bD) | exact HB.out)⟩⟩
       ·rw [if_neg c14] at H
        exact absurd H (by simp)
      ·rw [if_neg c13] at H
       exact absurd H (by simp)
     ·rw [if_neg c12] at H
      have c12b0 : decide (x25_1 < (y209.length : Int)) = false := decide_eq_false c12
      (try (have c12m0 := c12b0; simp only [hl5_1] at c12m0))
      clear c12
      replace H := Option.bind_eq_some_iff.mp H
      obtain ⟨t216, A180, H⟩ := H
      replace H : ((impl_number.f k1 a0).bind fun t217 => (if 0 ≤ t216 then (if t216 < (x5_1.length : Int) then (if 0 ≤ t217 then (if t217 < (y212.length : Int) then (impl_search.l1 k1 (x5_1.set (t216 : Int).toNat 0) (y212.set (t217 : Int).toNat 1) (([a0] : List ByteArray)) 0) else (none)) else (none)) else (none)) else (none))) = some (r1, r2, r3) := H
      have A18 := aM A180
      clear A180
      replace H := Option.bind_eq_some_iff.mp H
      obtain ⟨t217, A190, H⟩ := H
      replace H : (if 0 ≤ t216 then (if t216 < (x5_1.length : Int) then (if 0 ≤ t217 then (if t217 < (y212.length : Int) then (impl_search.l1 k1 (x5_1.set (t216 : Int).toNat 0) (y212.set (t217 : Int).toNat 1) (([a0] : List ByteArray)) 0) else (none)) else (none)) else (none)) else (none)) = some (r1, r2, r3) := H
      have A19 := aM A190
      clear A190
      by_cases c20 : 0 ≤ t216
      ·rw [if_pos c20] at H
       have c20b0 : decide (0 ≤ t216) = true := decide_eq_true c20
       clear c20
       by_cases c21 : t216 < (x5_1.length : Int)
       ·rw [if_pos c21] at H
        have c21b0 : decide (t216 < (x5_1.length : Int)) = true := decide_eq_true c21
        (try (have c21m0 := c21b0; simp only [hl5_1] at c21m0))
        clear c21
        obtain ⟨y218, hy218⟩ : ∃ y_ : List Int, y_ = (x5_1.set (t216 : Int).toNat 0) := ⟨_, rfl⟩
        replace H : (if 0 ≤ t217 then (if t217 < (y212.length : Int) then (impl_search.l1 k1 y218 (y212.set (t217 : Int).toNat 1) (([a0] : List ByteArray)) 0) else (none)) else (none)) = some (r1, r2, r3) := by first | (rw [hy218]; with_reducible exact H) | (have H2_ := (Option.bind_some _ _).symm.trans H; rw [hy218]; with_reducible exact H2_) | (have H2_ := (Option.bind_some _ _).symm.trans H; with_reducible exact H2_) | with_reducible exact H | (rw [hy218]; exact H) | exact H
        have Ny218 := aM hy218
        clear hy218
        by_cases c23 : 0 ≤ t217
        ·rw [if_pos c23] at H
         have c23b0 : decide (0 ≤ t217) = true := decide_eq_true c23
         clear c23
         by_cases c24 : t217 < (y212.length : Int)
         ·rw [if_pos c24] at H
          have c24b0 : decide (t217 < (y212.length : Int)) = true := decide_eq_true c24
          (try (have c24m0 := c24b0; simp only [hl5_1] at c24m0))
          clear c24
          obtain ⟨y219, hy219⟩ : ∃ y_ : List Int, y_ = (y212.set (t217 : Int).toNat 1) := ⟨_, rfl⟩
          replace H : (impl_search.l1 k1 y218 y219 (([a0] : List ByteArray)) 0) = some (r1, r2, r3) := by first | (rw [hy219]; with_reducible exact H) | (have H2_ := (Option.bind_some _ _).symm.trans H; rw [hy219]; with_reducible exact H2_) | (have H2_ := (Option.bind_some _ _).symm.trans H; with_reducible exact H2_) | with_reducible exact H | (rw [hy219]; exact H) | exact H
          have Ny219 := aM hy219
          clear hy219
          obtain ⟨y220, hy220⟩ : ∃ y_ : List ByteArray, y_ = (([a0] : List ByteArray)) := ⟨_, rfl⟩
          replace H : (impl_search.l1 k1 y218 y219 y220 0) = some (r1, r2, r3) := by first | (rw [hy220]; with_reducible exact H) | (have H2_ := (Option.bind_some _ _).symm.trans H; rw [hy220]; with_reducible exact H2_) | (have H2_ := (Option.bind_some _ _).symm.trans H; with_reducible exact H2_) | with_reducible exact H | (rw [hy220]; exact H) | exact H
          have Ny220 := aM hy220
          clear hy220
          have H' := aM H
          clear H
          go_wp2_with (first | ((with_reducible refine gate_callee (f := 38) rfl ?_); refine goesL_ (some 34) rfl rfl Tryz.func38 (by kernel_rfl) rfl #[.string a0] rfl (by (try simp only [List.map_toArray, List.map_cons, List.map_nil]); first | done | rfl | (simp only [List.length_drop, List.length_take]; rfl)) ?_; (with_reducible refine (impl_number.calls k1 a0 t216 _ A18.out).mono ?_); rintro e w' ⟨rfl, ⟨nd, rfl⟩⟩; refine ⟨_, rfl, ?_⟩; (try (rw [drewN_self wr]; generalize hq_ : World.drewN wr _ = wr; have n0_ : Aside0 (Kd.R (Kd.int .i64) 3 wr w.heap.size (fun k_ => some k_ ≠ (v213 : Value).ownBlock) (.slice Ao11 x5_1.length co11) x5_1) := ⟨by rw [← hq_]; exact (by (with_reducible repeat (first | apply rA | apply rN | apply rD)); exact HO_5.out)⟩; have n1_ : Aside0 (Kd.R (Kd.int .i64) 3 wr w.heap.size (fun k_ => some k_ ≠ (.slice Ao11 x5_1.length co11 : Value).ownBlock) v213 y212) := ⟨by rw [← hq_]; exact (by (with_reducible repeat (first | apply rA | apply rN | apply rD)); exact HO_6.out)⟩; have n2_ : Aside0 (Below w.heap.size w wr) := ⟨by rw [← hq_]; exact (by repeat (first | (with_reducible first | exact HB.out | apply bA | apply bN | apply bD) | exact HB.out))⟩; clear HO_5 HO_6 HB hq_; have HO_5 := n0_; have HO_6 := n1_; have HB := n2_; clear n0_ n1_ n2_))) | ((with_reducible refine gate_callee (f := 38) rfl ?_); refine goesL_ (some 37) rfl rfl Tryz.func38 (by kernel_rfl) rfl #[.string a0] rfl (by (try simp only [List.map_toArray, List.map_cons, List.map_nil]); first | done | rfl | (simp only [List.length_drop, List.length_take]; rfl)) ?_; (with_reducible refine (impl_number.calls k1 a0 t217 _ A19.out).mono ?_); rintro e w' ⟨rfl, ⟨nd, rfl⟩⟩; refine ⟨_, rfl, ?_⟩; (try (rw [drewN_self wr]; generalize hq_ : World.drewN wr _ = wr; have n0_ : Aside0 (Kd.R (Kd.int .i64) 3 wr w.heap.size (fun k_ => some k_ ≠ (v213 : Value).ownBlock) (.slice Ao11 x5_1.length co11) x5_1) := ⟨by rw [← hq_]; exact (by (with_reducible repeat (first | apply rA | apply rN | apply rD)); exact HO_5.out)⟩; have n1_ : Aside0 (Kd.R (Kd.int .i64) 3 wr w.heap.size (fun k_ => some k_ ≠ (.slice Ao11 x5_1.length co11 : Value).ownBlock) v213 y212) := ⟨by rw [← hq_]; exact (by (with_reducible repeat (first | apply rA | apply rN | apply rD)); exact HO_6.out)⟩; have n2_ : Aside0 (Below w.heap.size w wr) := ⟨by rw [← hq_]; exact (by repeat (first | (with_reducible first | exact HB.out | apply bA | apply bN | apply bD) | exact HB.out))⟩; clear HO_5 HO_6 HB hq_; have HO_5 := n0_; have HO_6 := n1_; have HB := n2_; clear n0_ n1_ n2_)); have p22 : 0 ≤ (t216 : Int) := of_decide_eq_true (by first | (with_reducible assumption) | assumption); have q22 : (t216 : Int) < ((x5_1.length : Int) : Int) := of_decide_eq_true (by first | (with_reducible assumption) | assumption); obtain ⟨go22, co22, eo22, gb22, gl22, cl22, HG22⟩ := Kd.R_form HO_5.out (by omega); (first | cases eo22 | (injection eo22 with ea_ en_ ec_; (first | subst ea_ | (injection ea_ with ea_; subst ea_)); subst ec_; clear en_)); have GB22 := aM gb22; have GG22 := aM HG22; clear gb22 gl22 HG22; obtain ⟨hx22_0, hf22_0⟩ := Kd.R_celln 0 HO_5.out (t216 : Int) p22 q22; replace p22 := eq_true p22; replace q22 := eq_true q22; obtain ⟨hy26_, hz26_⟩ := Kd.R_celln 0 HO_5.out (t216 : Int) (of_decide_eq_true (by first | (with_reducible assumption) | assumption)) (of_decide_eq_true (by first | (with_reducible assumption) | assumption)); have HP26 := Kd.R_putg HO_5.out (t216 : Int) 0) | ((with_reducible refine gate_store (t := 3) (p := 38) rfl ?_); refine store_event (t := 3) (p := 38) (v := ?vo_w27) (w1 := (wr.setCell ⟨go22, (t216 : Int).toNat, none⟩ (.int .i64 0))) ?hg ?ho ?hn ?hr ?_; (case ho => rfl); (case hg => rfl); (case hn => rfl); (case hr => first | (go_simp; done) | (go_simp; rfl)); intro w27 hw; have hg : wr.grownBy w27 (some go22) := (by rw [hw]; exact HP26.2); have hp_ : Kd.R (Kd.int .i64) 3 w27 w.heap.size (fun k_ => some k_ ≠ (v213 : Value).ownBlock) (.slice (some ⟨go22, 0, none⟩) x5_1.length co11) y218 := (by rw [hw, Ny218.out]; exact HP26.1); clear HP26; have n0_ := aM (hp_); have n1_ := aM (Kd.R_after (v := (.slice (some ⟨go22, 0, none⟩) x5_1.length co11)) (v1 := (.slice (some ⟨go22, 0, none⟩) x5_1.length co11)) (ok := (fun _ => True)) (by (with_reducible repeat (first | apply rA | apply rN | apply rD)); exact Kd.R_mono HO_6.out (fun _ hk => ⟨trivial, hk⟩)) hg (.inl rfl)); have n2_ := aM ((by rw [hw]; exact below_set (HB.out) GB22.out : Below w.heap.size w w27)); clear HO_5; clear HO_6; clear HB; have HO_5 := n0_; have HO_6 := n1_; have HB := n2_; clear n0_ n1_ n2_; clear hg hw hp_; have p25 : 0 ≤ (t217 : Int) := of_decide_eq_true (by first | (with_reducible assumption) | assumption); have q25 : (t217 : Int) < ((y212.length : Int) : Int) := of_decide_eq_true (by first | (with_reducible assumption) | assumption); obtain ⟨go25, co25, eo25, gb25, gl25, cl25, HG25⟩ := Kd.R_form HO_6.out (by omega); (first | cases eo25 | (injection eo25 with ea_ en_ ec_; (first | subst ea_ | (injection ea_ with ea_; subst ea_)); subst ec_; clear en_)); have GB25 := aM gb25; have GG25 := aM HG25; clear gb25 gl25 HG25; obtain ⟨hx25_0, hf25_0⟩ := Kd.R_celln 0 HO_6.out (t217 : Int) p25 q25; replace p25 := eq_true p25; replace q25 := eq_true q25; have n_ := aM (Kd.R_mono (ok' := (fun k_ => some k_ ≠ (.slice (some ⟨go22, 0, none⟩) x5_1.length co11 : Value).ownBlock)) HO_6.out (fun k_ hk => hk.2)); clear HO_6; have HO_6 := n_; clear n_; obtain ⟨hy28_, hz28_⟩ := Kd.R_celln 0 HO_6.out (t217 : Int) (of_decide_eq_true (by first | (with_reducible assumption) | assumption)) (of_decide_eq_true (by first | (with_reducible assumption) | assumption)); have HP28 := Kd.R_putg HO_6.out (t217 : Int) 1) | ((with_reducible refine gate_store (t := 3) (p := 39) rfl ?_); refine store_event (t := 3) (p := 39) (v := ?vo_w29) (w1 := (w27.setCell ⟨go25, (t217 : Int).toNat, none⟩ (.int .i64 1))) ?hg ?ho ?hn ?hr ?_; (case ho => rfl); (case hg => rfl); (case hn => rfl); (case hr => first | (go_simp; done) | (go_simp; rfl)); intro w29 hw; have hg : w27.grownBy w29 (some go25) := (by rw [hw]; exact HP28.2); have hp_ : Kd.R (Kd.int .i64) 3 w29 w.heap.size (fun k_ => some k_ ≠ (.slice (some ⟨go22, 0, none⟩) x5_1.length co11 : Value).ownBlock) (.slice (some ⟨go25, 0, none⟩) y212.length co25) y219 := (by rw [hw, Ny219.out]; exact HP28.1); clear HP28; have n0_ := aM (Kd.R_after (v := (.slice (some ⟨go25, 0, none⟩) y212.length co25)) (v1 := (.slice (some ⟨go25, 0, none⟩) y212.length co25)) (ok := (fun _ => True)) (by (with_reducible repeat (first | apply rA | apply rN | apply rD)); exact Kd.R_mono HO_5.out (fun _ hk => ⟨trivial, hk⟩)) hg (.inl rfl)); have n1_ := aM (hp_); have n2_ := aM ((by rw [hw]; exact below_set (HB.out) GB25.out : Below w.heap.size w w29)); clear HO_5; clear HO_6; clear HB; have HO_5 := n0_; have HO_6 := n1_; have HB := n2_; clear n0_ n1_ n2_; clear hg hw hp_) | ((with_reducible refine gate_dst (N := 41) rfl ?_); refine Kd.R_lit Kd.string _ 9 ?hg (N := 41) ?hd (xs := ([a0] : List ByteArray)) (inner := [.string a0]) (ok := fun _ => True) (okp := fun _ => True) ?hr ?hp (fun _ hk => hk) trivial (Below.refl _ _) (Nat.le_refl _) (by simp) ?_; (case hd => rfl); (case hg => rfl); (case hr => first | (go_simp; done) | (go_simp; rfl)); (case hp => exact (Reps.one (show Kd.M Kd.string _ _ _ a0 [.string a0] from rfl) (Reps.none _ _))); intro v221 w30 ho31 hb hg_ hnew_; clear hg_ hnew_; (first | rw [← Ny220.out] at ho31 | (simp only [Int.reduceToNat] at ho31; rw [← Ny220.out] at ho31)); have n0_ := aM (Kd.R_below (by (with_reducible repeat (first | apply rA | apply rN | apply rD)); exact HO_5.out) hb); have n1_ := aM (Kd.R_below (by (with_reducible repeat (first | apply rA | apply rN | apply rD)); exact HO_6.out) hb); have n2_ := aM (Kd.R_lower ho31 (below_size (by repeat (first | (with_reducible first | exact HB.out | apply bA | apply bN | apply bD) | exact HB.out)))); have n3_ := aM (below_step (by repeat (first | (with_reducible first | exact HB.out | apply bA | apply bN | apply bD) | exact HB.out)) hb); clear HO_5; clear HO_6; clear HB; have HO_5 := n0_; have HO_6 := n1_; have HO222 := n2_; have HB := n3_; clear n0_ n1_ n2_ n3_; clear hb ho31))
          go_loopg [8, 9] k1 (fun kq v8 v9 w' => ∃ (x5_2 : List Int) (x6_2 : List Int) (x8_2 : List ByteArray) (x9_2 : Int), v9 = .int .i64 x9_2 ∧ Aside0 (impl_search.l1 kq x5_2 x6_2 x8_2 x9_2 = some (r1, r2, r3)) ∧ Aside0 (kq ≤ k1) ∧ Aside0 (Kd.R (Kd.int .i64) 3 w' w.heap.size (fun k_ => some k_ ≠ ((.slice (some ⟨go25, 0, none⟩) y212.length co25) : Value).ownBlock) (.slice (some ⟨go22, 0, none⟩) x5_1.length co11) x5_2) ∧ Aside0 (Kd.R (Kd.int .i64) 3 w' w.heap.size (fun k_ => some k_ ≠ ((.slice (some ⟨go22, 0, none⟩) x5_1.length co11) : Value).ownBlock) (.slice (some ⟨go25, 0, none⟩) y212.length co25) x6_2) ∧ Aside0 (Kd.R Kd.string 9 w' w.heap.size (fun _ => True) v8 x8_2) ∧ Aside0 (Below w.heap.size w w'))
          case atStart => exact ⟨(y218), (y219), (y220), (0), (by first | rfl | (simp; done) | (simp [*]; done)), H', ⟨Nat.le_refl _⟩, ⟨by (try simp only [hl5_1]); (with_reducible repeat (first | apply rA | apply rN | apply rD)); exact Kd.R_mono HO_5.out (fun _ hk => hk.2)⟩, ⟨by (try simp only [hl5_1]); (with_reducible repeat (first | apply rA | apply rN | apply rD)); exact HO_6.out⟩, ⟨by (try simp only [hl5_1]); (with_reducible repeat (first | apply rA | apply rN | apply rD)); exact HO222.out⟩, ⟨by repeat (first | (with_reducible first | exact HB.out | apply bA | apply bN | apply bD) | exact HB.out)⟩⟩
          case round =>
           clear H'
           try clear c1
           try clear p1
           try clear q1
           try clear hx1
           try clear hf1
           try clear c2
           try clear p2
           try clear q2
           try clear hx2
           try clear hf2
           try clear c3
           try clear c3b0
           try clear c3b1
           try clear c4
           try clear c4b0
           try clear c4b1
           try clear p6
           try clear c12
           try clear c12b0
           try clear c13
           try clear c13b0
           try clear c14
           try clear c14b0
           try clear p15
           try clear q15
           try clear hx15
           try clear hf15
           try clear c20
           try clear c20b0
           try clear c21
           try clear c21b0
           try clear p22
           try clear q22
           try clear hx22
           try clear hf22
           try clear c23
           try clear c23b0
           try clear c24
           try clear c24b0
           try clear p25
           try clear q25
           try clear hx25
           try clear hf25
           try clear c27
           try clear hx15_0
           try clear hx22_0
           try clear hx25_0
           try clear p15
           try clear p2
           try clear p22
           try clear p25
           try clear p6
           try clear q15
           try clear q22
           try clear q25
           obtain ⟨x5_2, x6_2, x8_2, x9_2, rfl, HA, HK2, HO_5, HO_6, HO_8, HB⟩ := hrel
           have hl5_2 := (Kd.R_reads' HO_5.out).1
           rw [hl5_2] at HO_5
           (try simp only [hl5_2])
           (try simp only [hl5_2] at HO_6)
           (try simp only [hl5_2] at HO_8)
           have hl6_2 := (Kd.R_reads' HO_6.out).1
           rw [hl6_2] at HO_6
           (try simp only [hl6_2])
           (try simp only [hl6_2] at HO_5)
           (try simp only [hl6_2] at HO_8)
           cases gk with
           | zero => exact absurd HA.out (by simp [impl_search.l1])
           | succ k2 =>
            have H := HA.out
            clear HA
            simp only [impl_search.l1] at H
            by_cases c32 : x9_2 < (x8_2.length : Int)
            ·rw [if_pos c32] at H
             have c32b0 : decide (x9_2 < (x8_2.length : Int)) = true := decide_eq_true c32
             (try (have c32m0 := c32b0; simp only [hl5_1] at c32m0)); (try (have c32m1 := c32b0; simp only [hl5_2] at c32m1)); (try (have c32m2 := c32b0; simp only [hl6_2] at c32m2))
             clear c32
             by_cases c33 : 0 ≤ x9_2
             ·rw [if_pos c33] at H
              have c33b0 : decide (0 ≤ x9_2) = true := decide_eq_true c33
              clear c33
              replace H := Option.bind_eq_some_iff.mp H
              obtain ⟨t224, A340, H⟩ := H
              replace H : ((impl_pairMoves.f k2 (rdOf ByteArray.empty x8_2 x9_2)).bind fun t226 => (impl_search.l2 k2 x5_2 x6_2 x8_2 x9_2 t224 t226 (t226.length : Int) 0)) = some (r1, r2, r3) := H
              have A34 := aM A340
              clear A340
              replace H := Option.bind_eq_some_iff.mp H
              obtain ⟨t226, A350, H⟩ := H
              replace H : (impl_search.l2 k2 x5_2 x6_2 x8_2 x9_2 t224 t226 (t226.length : Int) 0) = some (r1, r2, r3) := H
              have A35 := aM A350
              clear A350
              have H' := aM H
              clear H
              obtain ⟨Ao36, co36, eo36⟩ := Kd.R_slice HO_8.out
              subst eo36
              have p223 : 0 ≤ (x9_2 : Int) := of_decide_eq_true (by first | (with_reducible assumption) | assumption)
              have q223 : x9_2 < (x8_2.length : Int) := of_decide_eq_true (by first | (with_reducible assumption) | assumption)
              obtain ⟨ad223, e223, hx223_0⟩ := Kd.at_string (Kd.R_reads' HO_8.out).2.2 x9_2 p223 q223
              cases e223
              replace p223 := eq_true p223
              replace q223 := eq_true q223
              go_wp2_with (first | ((with_reducible refine gate_callee (f := 38) rfl ?_); refine goesL_ (some 52) rfl rfl Tryz.func38 (by kernel_rfl) rfl #[.string (rdOf ByteArray.empty x8_2 x9_2)] rfl (by (try simp only [List.map_toArray, List.map_cons, List.map_nil]); first | done | rfl | (simp only [List.length_drop, List.length_take]; rfl)) ?_; (with_reducible refine (impl_number.calls k2 (rdOf ByteArray.empty x8_2 x9_2) t224 _ A34.out).mono ?_); rintro e w' ⟨rfl, ⟨nd, rfl⟩⟩; refine ⟨_, rfl, ?_⟩; have p225 : 0 ≤ (x9_2 : Int) := of_decide_eq_true (by first | (with_reducible assumption) | assumption); have q225 : x9_2 < (x8_2.length : Int) := of_decide_eq_true (by first | (with_reducible assumption) | assumption); obtain ⟨ad225, e225, hx225_0⟩ := Kd.at_string (Kd.R_reads' HO_8.out).2.2 x9_2 p225 q225; obtain rfl : ad223 = ad225 := (by injection e225); replace p225 := eq_true p225; replace q225 := eq_true q225) | ((with_reducible refine gate_callee (f := 50) rfl ?_); refine goesL_ (some 57) rfl rfl Tryz.func50 (by kernel_rfl) rfl #[.string (rdOf ByteArray.empty x8_2 x9_2)] rfl (by (try simp only [List.map_toArray, List.map_cons, List.map_nil]); first | done | rfl | (simp only [List.length_drop, List.length_take]; rfl)) ?_; (with_reducible refine (impl_pairMoves.calls k2 (rdOf ByteArray.empty x8_2 x9_2) t226 _ A35.out).mono ?_); rintro e w37 ⟨v227, rfl, ho0, hb⟩; refine ⟨_, rfl, ?_⟩; have n0_ := aM (Kd.R_elder' (by (with_reducible repeat (first | apply rA | apply rN | apply rD)); exact HO_5.out) (Kd.R_base ho0) hb); have n1_ := aM (Kd.R_elder' (by (with_reducible repeat (first | apply rA | apply rN | apply rD)); exact HO_6.out) (Kd.R_base ho0) hb); have n2_ := aM (Kd.R_below (by (with_reducible repeat (first | apply rA | apply rN | apply rD)); exact HO_8.out) hb); have n3_ := aM (Kd.R_lower (Kd.R_new' (Kd.R_new' ho0 (Kd.R_lt (by (with_reducible repeat (first | apply rA | apply rN | apply rD)); exact HO_5.out))) (Kd.R_lt (by (with_reducible repeat (first | apply rA | apply rN | apply rD)); exact HO_6.out))) (below_size (by repeat (first | (with_reducible first | exact HB.out | apply bA | apply bN | apply bD) | exact HB.out)))); have n4_ := aM (below_step (by repeat (first | (with_reducible first | exact HB.out | apply bA | apply bN | apply bD) | exact HB.out)) hb); clear HO_5; clear HO_6; clear HO_8; clear HB; have HO_5 := n0_; have HO_6 := n1_; have HO_8 := n2_; have HO228 := n3_; have HB := n4_; clear n0_ n1_ n2_ n3_ n4_; (try clear hb); (try clear hb2); (try clear hk); (try clear hi); (try clear ho0); obtain ⟨Ao38, co38, eo38⟩ := Kd.R_slice HO228.out; subst eo38))
              go_loopg [8, 59] k2 (fun kq v8 v59 w' => ∃ (x5_3 : List Int) (x6_3 : List Int) (x8_3 : List ByteArray) (x59_3 : Int), v59 = .int .i64 x59_3 ∧ Aside0 (impl_search.l2 kq x5_3 x6_3 x8_3 x9_2 t224 t226 (t226.length : Int) x59_3 = some (r1, r2, r3)) ∧ Aside0 (kq ≤ k2) ∧ Aside0 (Kd.R (Kd.int .i64) 3 w' w.heap.size (fun k_ => some k_ ≠ ((.slice (some ⟨go25, 0, none⟩) x6_2.length co25) : Value).ownBlock ∧ some k_ ≠ ((.slice Ao38 t226.length co38) : Value).ownBlock) (.slice (some ⟨go22, 0, none⟩) x5_2.length co11) x5_3) ∧ Aside0 (Kd.R (Kd.int .i64) 3 w' w.heap.size (fun k_ => some k_ ≠ ((.slice (some ⟨go22, 0, none⟩) x5_2.length co11) : Value).ownBlock ∧ some k_ ≠ ((.slice Ao38 t226.length co38) : Value).ownBlock) (.slice (some ⟨go25, 0, none⟩) x6_2.length co25) x6_3) ∧ Aside0 (Kd.R Kd.string 9 w' w.heap.size (fun _ => True) v8 x8_3) ∧ Aside0 (Kd.R (Kd.int .i64) 3 w' w.heap.size (fun k_ => some k_ ≠ ((.slice (some ⟨go22, 0, none⟩) x5_2.length co11) : Value).ownBlock ∧ some k_ ≠ ((.slice (some ⟨go25, 0, none⟩) x6_2.length co25) : Value).ownBlock) (.slice Ao38 t226.length co38) t226) ∧ Aside0 (Below w.heap.size w w'))
              case atStart => exact ⟨(x5_2), (x6_2), (x8_2), (0), (by first | rfl | (simp; done) | (simp [*]; done)), H', ⟨Nat.le_refl _⟩, ⟨by (try simp only [hl5_1]); (try simp only [hl5_2]); (try simp only [hl6_2]); (with_reducible repeat (first | apply rA | apply rN | apply rD)); exact HO_5.out⟩, ⟨by (try simp only [hl5_1]); (try simp only [hl5_2]); (try simp only [hl6_2]); (with_reducible repeat (first | apply rA | apply rN | apply rD)); exact HO_6.out⟩, ⟨by (try simp only [hl5_1]); (try simp only [hl5_2]); (try simp only [hl6_2]); (with_reducible repeat (first | apply rA | apply rN | apply rD)); exact HO_8.out⟩, ⟨by (try simp only [hl5_1]); (try simp only [hl5_2]); (try simp only [hl6_2]); (with_reducible repeat (first | apply rA | apply rN | apply rD)); exact Kd.R_mono HO228.out (fun _ hk => ⟨hk.1.2, hk.2⟩)⟩, ⟨by repeat (first | (with_reducible first | exact HB.out | apply bA | apply bN | apply bD) | exact HB.out)⟩⟩
              case round =>
               clear H'
               try clear c1
               try clear p1
               try clear q1
               try clear hx1
               try clear hf1
               try clear c2
               try clear p2
               try clear q2
               try clear hx2
               try clear hf2
               try clear c3
               try clear c3b0
               try clear c3b1
               try clear c4
               try clear c4b0
               try clear c4b1
               try clear c5
               try clear p6
               try clear c12
               try clear c12b0
               try clear c13
               try clear c13b0
               try clear c14
               try clear c14b0
               try clear p15
               try clear q15
               try clear hx15
               try clear hf15
               try clear c20
               try clear c20b0
               try clear c21
               try clear c21b0
               try clear p22
               try clear q22
               try clear hx22
               try clear hf22
               try clear c23
               try clear c23b0
               try clear c24
               try clear c24b0
               try clear p25
               try clear q25
               try clear hx25
               try clear hf25
               try clear c27
               try clear c32
               try clear c32b0
               try clear c33
               try clear c33b0
               try clear c38
               try clear hx15_0
               try clear hx223_0
               try clear hx225_0
               try clear hx22_0
               try clear hx25_0
               try clear p1
               try clear p15
               try clear p2
               try clear p22
               try clear p223
               try clear p225
               try clear p25
               try clear p6
               try clear q1
               try clear q15
               try clear q2
               try clear q22
               try clear q223
               try clear q225
               try clear q25
               obtain ⟨x5_3, x6_3, x8_3, x59_3, rfl, HA, HK3, HO_5, HO_6, HO_8, HO_57, HB⟩ := hrel
               have hl5_3 := (Kd.R_reads' HO_5.out).1
               rw [hl5_3] at HO_5
               (try simp only [hl5_3])
               (try simp only [hl5_3] at HO_6)
               (try simp only [hl5_3] at HO_8)
               (try simp only [hl5_3] at HO_57)
               have hl6_3 := (Kd.R_reads' HO_6.out).1
               rw [hl6_3] at HO_6
               (try simp only [hl6_3])
               (try simp only [hl6_3] at HO_5)
               (try simp only [hl6_3] at HO_8)
               (try simp only [hl6_3] at HO_57)
               cases gk with
               | zero => exact absurd HA.out (by simp [impl_search.l2])
               | succ k3 =>
                have H := HA.out
                clear HA
                simp only [impl_search.l2] at H
                by_cases c39 : x59_3 < (t226.length : Int)
                ·rw [if_pos c39] at H
                 have c39b0 : decide (x59_3 < (t226.length : Int)) = true := decide_eq_true c39
                 (try (have c39m0 := c39b0; simp only [hl5_1] at c39m0)); (try (have c39m1 := c39b0; simp only [hl5_2] at c39m1)); (try (have c39m2 := c39b0; simp only [hl6_2] at c39m2)); (try (have c39m3 := c39b0; simp only [hl5_3] at c39m3)); (try (have c39m4 := c39b0; simp only [hl6_3] at c39m4))
                 clear c39
                 by_cases c40 : 0 ≤ x59_3
                 ·rw [if_pos c40] at H
                  have c40b0 : decide (0 ≤ x59_3) = true := decide_eq_true c40
                  clear c40
                  by_cases c41 : x59_3 < (t226.length : Int)
                  ·rw [if_pos c41] at H
                   have c41b0 : decide (x59_3 < (t226.length : Int)) = true := decide_eq_true c41
                   (try (have c41m0 := c41b0; simp only [hl5_1] at c41m0)); (try (have c41m1 := c41b0; simp only [hl5_2] at c41m1)); (try (have c41m2 := c41b0; simp only [hl6_2] at c41m2)); (try (have c41m3 := c41b0; simp only [hl5_3] at c41m3)); (try (have c41m4 := c41b0; simp only [hl6_3] at c41m4))
                   clear c41
                   by_cases c42 : 0 ≤ x9_2
                   ·rw [if_pos c42] at H
                    have c42b0 : decide (0 ≤ x9_2) = true := decide_eq_true c42
                    clear c42
                    by_cases c43 : x9_2 < (x8_3.length : Int)
                    ·rw [if_pos c43] at H
                     have c43b0 : decide (x9_2 < (x8_3.length : Int)) = true := decide_eq_true c43
                     (try (have c43m0 := c43b0; simp only [hl5_1] at c43m0)); (try (have c43m1 := c43b0; simp only [hl5_2] at c43m1)); (try (have c43m2 := c43b0; simp only [hl6_2] at c43m2)); (try (have c43m3 := c43b0; simp only [hl5_3] at c43m3)); (try (have c43m4 := c43b0; simp only [hl6_3] at c43m4))
                     clear c43
                     replace H := Option.bind_eq_some_iff.mp H
                     obtain ⟨t231, A440, H⟩ := H
                     replace H : ((impl_number.f k3 t231).bind fun t232 => (if 0 ≤ t232 then (if t232 < (x5_3.length : Int) then (if (rd x5_3 t232) < 0 then (if 0 ≤ t224 then (if t224 < (x5_3.length : Int) then ((some (x5_3.set (t232 : Int).toNat (wrap64 ((rd x5_3 t224) + 1)) : List Int)).bind fun y235 => (if x8_3.length < 8796093022208 then ((some (x8_3 ++ [t231] : List ByteArray)).bind fun y236 => (if (rd y235 t232) = (wrap64 ((rd y235 t224) + 1)) then (if t232 < (x6_3.length : Int) then (if t224 < (x6_3.length : Int) then (impl_search.l2 k3 y235 (x6_3.set (t232 : Int).toNat (wrap64 ((rd x6_3 t232) + (rd x6_3 t224)))) y236 x9_2 t224 t226 (t226.length : Int) (wrap64 (x59_3 + 1))) else (none)) else (none)) else (impl_search.l2 k3 y235 x6_3 y236 x9_2 t224 t226 (t226.length : Int) (wrap64 (x59_3 + 1))))) else (none))) else (none)) else (none)) else (if 0 ≤ t224 then (if t224 < (x5_3.length : Int) then (if (rd x5_3 t232) = (wrap64 ((rd x5_3 t224) + 1)) then (if t232 < (x6_3.length : Int) then (if t224 < (x6_3.length : Int) then (impl_search.l2 k3 x5_3 (x6_3.set (t232 : Int).toNat (wrap64 ((rd x6_3 t232) + (rd x6_3 t224)))) x8_3 x9_2 t224 t226 (t226.length : Int) (wrap64 (x59_3 + 1))) else (none)) else (none)) else (impl_search.l2 k3 x5_3 x6_3 x8_3 x9_2 t224 t226 (t226.length : Int) (wrap64 (x59_3 + 1)))) else (none)) else (none))) else (none)) else (none))) = some (r1, r2, r3) := H
                     have A44 := aM A440
                     clear A440
                     replace H := Option.bind_eq_some_iff.mp H
                     obtain ⟨t232, A450, H⟩ := H
                     replace H : (if 0 ≤ t232 then (if t232 < (x5_3.length : Int) then (if (rd x5_3 t232) < 0 then (if 0 ≤ t224 then (if t224 < (x5_3.length : Int) then ((some (x5_3.set (t232 : Int).toNat (wrap64 ((rd x5_3 t224) + 1)) : List Int)).bind fun y235 => (if x8_3.length < 8796093022208 then ((some (x8_3 ++ [t231] : List ByteArray)).bind fun y236 => (if (rd y235 t232) = (wrap64 ((rd y235 t224) + 1)) then (if t232 < (x6_3.length : Int) then (if t224 < (x6_3.length : Int) then (impl_search.l2 k3 y235 (x6_3.set (t232 : Int).toNat (wrap64 ((rd x6_3 t232) + (rd x6_3 t224)))) y236 x9_2 t224 t226 (t226.length : Int) (wrap64 (x59_3 + 1))) else (none)) else (none)) else (impl_search.l2 k3 y235 x6_3 y236 x9_2 t224 t226 (t226.length : Int) (wrap64 (x59_3 + 1))))) else (none))) else (none)) else (none)) else (if 0 ≤ t224 then (if t224 < (x5_3.length : Int) then (if (rd x5_3 t232) = (wrap64 ((rd x5_3 t224) + 1)) then (if t232 < (x6_3.length : Int) then (if t224 < (x6_3.length : Int) then (impl_search.l2 k3 x5_3 (x6_3.set (t232 : Int).toNat (wrap64 ((rd x6_3 t232) + (rd x6_3 t224)))) x8_3 x9_2 t224 t226 (t226.length : Int) (wrap64 (x59_3 + 1))) else (none)) else (none)) else (impl_search.l2 k3 x5_3 x6_3 x8_3 x9_2 t224 t226 (t226.length : Int) (wrap64 (x59_3 + 1)))) else (none)) else (none))) else (none)) else (none)) = some (r1, r2, r3) := H
                     have A45 := aM A450
                     clear A450
                     by_cases c46 : 0 ≤ t232
                     ·rw [if_pos c46] at H
                      have c46b0 : decide (0 ≤ t232) = true := decide_eq_true c46
                      clear c46
                      by_cases c47 : t232 < (x5_3.length : Int)
                      ·rw [if_pos c47] at H
                       have c47b0 : decide (t232 < (x5_3.length : Int)) = true := decide_eq_true c47
                       (try (have c47m0 := c47b0; simp only [hl5_1] at c47m0)); (try (have c47m1 := c47b0; simp only [hl5_2] at c47m1)); (try (have c47m2 := c47b0; simp only [hl6_2] at c47m2)); (try (have c47m3 := c47b0; simp only [hl5_3] at c47m3)); (try (have c47m4 := c47b0; simp only [hl6_3] at c47m4))
                       clear c47
                       by_cases c48 : (rd x5_3 t232) < 0
                       ·rw [if_pos c48] at H
                        have c48b0 : decide ((rd x5_3 t232) < 0) = true := decide_eq_true c48
                        clear c48
                        by_cases c49 : 0 ≤ t224
                        ·rw [if_pos c49] at H
                         have c49b0 : decide (0 ≤ t224) = true := decide_eq_true c49
                         clear c49
                         by_cases c50 : t224 < (x5_3.length : Int)
                         ·rw [if_pos c50] at H
                          have c50b0 : decide (t224 < (x5_3.length : Int)) = true := decide_eq_true c50
                          (try (have c50m0 := c50b0; simp only [hl5_1] at c50m0)); (try (have c50m1 := c50b0; simp only [hl5_2] at c50m1)); (try (have c50m2 := c50b0; simp only [hl6_2] at c50m2)); (try (have c50m3 := c50b0; simp only [hl5_3] at c50m3)); (try (have c50m4 := c50b0; simp only [hl6_3] at c50m4))
                          clear c50
                          obtain ⟨y235, hy235⟩ : ∃ y_ : List Int, y_ = (x5_3.set (t232 : Int).toNat (wrap64 ((rd x5_3 t224) + 1))) := ⟨_, rfl⟩
                          replace H : (if x8_3.length < 8796093022208 then ((some (x8_3 ++ [t231] : List ByteArray)).bind fun y236 => (if (rd y235 t232) = (wrap64 ((rd y235 t224) + 1)) then (if t232 < (x6_3.length : Int) then (if t224 < (x6_3.length : Int) then (impl_search.l2 k3 y235 (x6_3.set (t232 : Int).toNat (wrap64 ((rd x6_3 t232) + (rd x6_3 t224)))) y236 x9_2 t224 t226 (t226.length : Int) (wrap64 (x59_3 + 1))) else (none)) else (none)) else (impl_search.l2 k3 y235 x6_3 y236 x9_2 t224 t226 (t226.length : Int) (wrap64 (x59_3 + 1))))) else (none)) = some (r1, r2, r3) := by first | (rw [hy235]; with_reducible exact H) | (have H2_ := (Option.bind_some _ _).symm.trans H; rw [hy235]; with_reducible exact H2_) | (have H2_ := (Option.bind_some _ _).symm.trans H; with_reducible exact H2_) | with_reducible exact H | (rw [hy235]; exact H) | exact H
                          have Ny235 := aM hy235
                          clear hy235
                          by_cases c52 : x8_3.length < 8796093022208
                          ·rw [if_pos c52] at H
                           have LMc52 := aM c52
                           clear c52
                           obtain ⟨y236, hy236⟩ : ∃ y_ : List ByteArray, y_ = (x8_3 ++ [t231]) := ⟨_, rfl⟩
                           replace H : (if (rd y235 t232) = (wrap64 ((rd y235 t224) + 1)) then (if t232 < (x6_3.length : Int) then (if t224 < (x6_3.length : Int) then (impl_search.l2 k3 y235 (x6_3.set (t232 : Int).toNat (wrap64 ((rd x6_3 t232) + (rd x6_3 t224)))) y236 x9_2 t224 t226 (t226.length : Int) (wrap64 (x59_3 + 1))) else (none)) else (none)) else (impl_search.l2 k3 y235 x6_3 y236 x9_2 t224 t226 (t226.length : Int) (wrap64 (x59_3 + 1)))) = some (r1, r2, r3) := by first | (rw [hy236]; with_reducible exact H) | (have H2_ := (Option.bind_some _ _).symm.trans H; rw [hy236]; with_reducible exact H2_) | (have H2_ := (Option.bind_some _ _).symm.trans H; with_reducible exact H2_) | with_reducible exact H | (rw [hy236]; exact H) | exact H
                           have Ny236 := aM hy236
                           clear hy236
                           by_cases c53 : (rd y235 t232) = (wrap64 ((rd y235 t224) + 1))
                           ·rw [if_pos c53] at H
                            have c53b0 : ((rd y235 t232) == (wrap64 ((rd y235 t224) + 1))) = true := beq_iff_eq.mpr c53
                            have c53b1 : ((rd y235 t232) != (wrap64 ((rd y235 t224) + 1))) = false := bne_eq_false_iff_eq.mpr c53
                            clear c53
                            by_cases c54 : t232 < (x6_3.length : Int)
                            ·rw [if_pos c54] at H
                             have c54b0 : decide (t232 < (x6_3.length : Int)) = true := decide_eq_true c54
                             (try (have c54m0 := c54b0; simp only [hl5_1] at c54m0)); (try (have c54m1 := c54b0; simp only [hl5_2] at c54m1)); (try (have c54m2 := c54b0; simp only [hl6_2] at c54m2)); (try (have c54m3 := c54b0; simp only [hl5_3] at c54m3)); (try (have c54m4 := c54b0; simp only [hl6_3] at c54m4))
                             clear c54
                             by_cases c55 : t224 < (x6_3.length : Int)
                             ·rw [if_pos c55] at H
                              have c55b0 : decide (t224 < (x6_3.length : Int)) = true := decide_eq_true c55
                              (try (have c55m0 := c55b0; simp only [hl5_1] at c55m0)); (try (have c55m1 := c55b0; simp only [hl5_2] at c55m1)); (try (have c55m2 := c55b0; simp only [hl6_2] at c55m2)); (try (have c55m3 := c55b0; simp only [hl5_3] at c55m3)); (try (have c55m4 := c55b0; simp only [hl6_3] at c55m4))
                              clear c55
                              obtain ⟨y243, hy243⟩ : ∃ y_ : List Int, y_ = (x6_3.set (t232 : Int).toNat (wrap64 ((rd x6_3 t232) + (rd x6_3 t224)))) := ⟨_, rfl⟩
                              replace H : (impl_search.l2 k3 y235 y243 y236 x9_2 t224 t226 (t226.length : Int) (wrap64 (x59_3 + 1))) = some (r1, r2, r3) := by first | (rw [hy243]; with_reducible exact H) | (have H2_ := (Option.bind_some _ _).symm.trans H; rw [hy243]; with_reducible exact H2_) | (have H2_ := (Option.bind_some _ _).symm.trans H; with_reducible exact H2_) | with_reducible exact H | (rw [hy243]; exact H) | exact H
                              have Ny243 := aM hy243
                              clear hy243
                              have H' := aM H
                              clear H
                              have p229 : 0 ≤ (x59_3 : Int) := of_decide_eq_true (by first | (with_reducible assumption) | assumption)
                              have q229 : x59_3 < (t226.length : Int) := of_decide_eq_true (by first | (with_reducible assumption) | assumption)
                              obtain ⟨ad229, e229, hx229_0⟩ := Kd.at_int (Kd.R_reads' HO_57.out).2.2 x59_3 p229 q229
                              cases e229
                              replace p229 := eq_true p229
                              replace q229 := eq_true q229
                              obtain ⟨Ao57, co57, eo57⟩ := Kd.R_slice HO_8.out
                              subst eo57
                              have p230 : 0 ≤ (x9_2 : Int) := of_decide_eq_true (by first | (with_reducible assumption) | assumption)
                              have q230 : x9_2 < (x8_3.length : Int) := of_decide_eq_true (by first | (with_reducible assumption) | assumption)
                              obtain ⟨ad230, e230, hx230_0⟩ := Kd.at_string (Kd.R_reads' HO_8.out).2.2 x9_2 p230 q230
                              cases e230
                              replace p230 := eq_true p230
                              replace q230 := eq_true q230
                              try go_wp2_with (first | ((with_reducible refine gate_callee (f := 51) rfl ?_); refine goesL_ (some 68) rfl rfl Tryz.func51 (by kernel_rfl) rfl #[.string (rdOf ByteArray.empty x8_3 x9_2), .int .i64 (rd t226 x59_3)] rfl (by (try simp only [List.map_toArray, List.map_cons, List.map_nil]); first | done | rfl | (simp only [List.length_drop, List.length_take]; rfl)) ?_; (with_reducible refine (impl_paired.calls (rdOf ByteArray.empty x8_3 x9_2) (rd t226 x59_3) t231 _ A44.out).mono ?_); rintro e w58 ⟨rfl, hb⟩; refine ⟨_, rfl, ?_⟩; have n0_ := aM (Kd.R_below (by (with_reducible repeat (first | apply rA | apply rN | apply rD)); exact HO_5.out) hb); have n1_ := aM (Kd.R_below (by (with_reducible repeat (first | apply rA | apply rN | apply rD)); exact HO_6.out) hb); have n2_ := aM (Kd.R_below (by (with_reducible repeat (first | apply rA | apply rN | apply rD)); exact HO_8.out) hb); have n3_ := aM (Kd.R_below (by (with_reducible repeat (first | apply rA | apply rN | apply rD)); exact HO_57.out) hb); have n4_ := aM (below_step (by repeat (first | (with_reducible first | exact HB.out | apply bA | apply bN | apply bD) | exact HB.out)) hb); clear HO_5; clear HO_6; clear HO_8; clear HO_57; clear HB; have HO_5 := n0_; have HO_6 := n1_; have HO_8 := n2_; have HO_57 := n3_; have HB := n4_; clear n0_ n1_ n2_ n3_ n4_; (try clear hb); (try clear hb2); (try clear hk); (try clear hi)) | ((with_reducible refine gate_callee (f := 38) rfl ?_); refine goesL_ (some 70) rfl rfl Tryz.func38 (by kernel_rfl) rfl #[.string t231] rfl (by (try simp only [List.map_toArray, List.map_cons, List.map_nil]); first | done | rfl | (simp only [List.length_drop, List.length_take]; rfl)) ?_; (with_reducible refine (impl_number.calls k3 t231 t232 _ A45.out).mono ?_); rintro e w' ⟨rfl, ⟨nd, rfl⟩⟩; refine ⟨_, rfl, ?_⟩; (try (rw [drewN_self w58]; generalize hq_ : World.drewN w58 _ = w58; have n0_ : Aside0 (Kd.R (Kd.int .i64) 3 w58 w.heap.size (fun k_ => some k_ ≠ (.slice (some ⟨go25, 0, none⟩) x6_3.length co25 : Value).ownBlock ∧ some k_ ≠ (.slice (some ad229) t226.length co38 : Value).ownBlock) (.slice (some ⟨go22, 0, none⟩) x5_3.length co11) x5_3) := ⟨by rw [← hq_]; exact (by (with_reducible repeat (first | apply rA | apply rN | apply rD)); exact HO_5.out)⟩; have n1_ : Aside0 (Kd.R (Kd.int .i64) 3 w58 w.heap.size (fun k_ => some k_ ≠ (.slice (some ⟨go22, 0, none⟩) x5_3.length co11 : Value).ownBlock ∧ some k_ ≠ (.slice (some ad229) t226.length co38 : Value).ownBlock) (.slice (some ⟨go25, 0, none⟩) x6_3.length co25) x6_3) := ⟨by rw [← hq_]; exact (by (with_reducible repeat (first | apply rA | apply rN | apply rD)); exact HO_6.out)⟩; have n2_ : Aside0 (Kd.R Kd.string 9 w58 w.heap.size (fun _ => True) (.slice (some ad230) x8_3.length co57) x8_3) := ⟨by rw [← hq_]; exact (by (with_reducible repeat (first | apply rA | apply rN | apply rD)); exact HO_8.out)⟩; have n3_ : Aside0 (Kd.R (Kd.int .i64) 3 w58 w.heap.size (fun k_ => some k_ ≠ (.slice (some ⟨go22, 0, none⟩) x5_3.length co11 : Value).ownBlock ∧ some k_ ≠ (.slice (some ⟨go25, 0, none⟩) x6_3.length co25 : Value).ownBlock) (.slice (some ad229) t226.length co38) t226) := ⟨by rw [← hq_]; exact (by (with_reducible repeat (first | apply rA | apply rN | apply rD)); exact HO_57.out)⟩; have n4_ : Aside0 (Below w.heap.size w w58) := ⟨by rw [← hq_]; exact (by repeat (first | (with_reducible first | exact HB.out | apply bA | apply bN | apply bD) | exact HB.out))⟩; clear HO_5 HO_6 HO_8 HO_57 HB hq_; have HO_5 := n0_; have HO_6 := n1_; have HO_8 := n2_; have HO_57 := n3_; have HB := n4_; clear n0_ n1_ n2_ n3_ n4_)); have p233 : 0 ≤ (t232 : Int) := of_decide_eq_true (by first | (with_reducible assumption) | assumption); have q233 : t232 < (x5_3.length : Int) := of_decide_eq_true (by first | (with_reducible assumption) | assumption); obtain ⟨ad233, e233, hx233_0⟩ := Kd.at_int (Kd.R_reads' HO_5.out).2.2 t232 p233 q233; obtain rfl : (⟨go22, 0, none⟩ : Addr) = ad233 := (by injection e233); (first | simp only [add_plain] at hx233_0 | simp only [add_at] at hx233_0 | simp only [Addr.add, Nat.zero_add] at hx233_0 | skip); replace p233 := eq_true p233; replace q233 := eq_true q233; have p234 : 0 ≤ (t224 : Int) := of_decide_eq_true (by first | (with_reducible assumption) | assumption); have q234 : t224 < (x5_3.length : Int) := of_decide_eq_true (by first | (with_reducible assumption) | assumption); obtain ⟨ad234, e234, hx234_0⟩ := Kd.at_int (Kd.R_reads' HO_5.out).2.2 t224 p234 q234; obtain rfl : (⟨go22, 0, none⟩ : Addr) = ad234 := (by injection e234); (first | simp only [add_plain] at hx234_0 | simp only [add_at] at hx234_0 | simp only [Addr.add, Nat.zero_add] at hx234_0 | skip); replace p234 := eq_true p234; replace q234 := eq_true q234; have p51 : 0 ≤ (t232 : Int) := of_decide_eq_true (by first | (with_reducible assumption) | assumption); have q51 : (t232 : Int) < ((x5_3.length : Int) : Int) := of_decide_eq_true (by first | (with_reducible assumption) | assumption); obtain ⟨hx51_0, hf51_0⟩ := Kd.R_celln 0 HO_5.out (t232 : Int) p51 q51; replace p51 := eq_true p51; replace q51 := eq_true q51; obtain ⟨hy59_, hz59_⟩ := Kd.R_celln 0 HO_5.out (t232 : Int) (of_decide_eq_true (by first | (with_reducible assumption) | assumption)) (of_decide_eq_true (by first | (with_reducible assumption) | assumption)); have HP59 := Kd.R_putg HO_5.out (t232 : Int) (wrap64 ((rd x5_3 t224) + 1))) | ((with_reducible refine gate_store (t := 3) (p := 83) rfl ?_); refine store_event (t := 3) (p := 83) (v := ?vo_w60) (w1 := (w58.setCell ⟨go22, (t232 : Int).toNat, none⟩ (.int .i64 (wrap64 ((rd x5_3 t224) + 1))))) ?hg ?ho ?hn ?hr ?_; (case ho => rfl); (case hg => rfl); (case hn => rfl); (case hr => first | (go_simp; done) | (go_simp; rfl)); intro w60 hw; have hg : w58.grownBy w60 (some go22) := (by rw [hw]; exact HP59.2); have hp_ : Kd.R (Kd.int .i64) 3 w60 w.heap.size (fun k_ => some k_ ≠ (.slice (some ⟨go25, 0, none⟩) x6_3.length co25 : Value).ownBlock ∧ some k_ ≠ (.slice (some ad229) t226.length co38 : Value).ownBlock) (.slice (some ⟨go22, 0, none⟩) x5_3.length co11) y235 := (by rw [hw, Ny235.out]; exact HP59.1); clear HP59; have n0_ := aM (hp_); have n1_ := aM (Kd.R_after (v := (.slice (some ⟨go22, 0, none⟩) x5_3.length co11)) (v1 := (.slice (some ⟨go22, 0, none⟩) x5_3.length co11)) (ok := (fun k_ => some k_ ≠ (.slice (some ad229) t226.length co38 : Value).ownBlock)) (by (with_reducible repeat (first | apply rA | apply rN | apply rD)); exact Kd.R_mono HO_6.out (fun _ hk => ⟨hk.2, hk.1⟩)) hg (.inl rfl)); have n2_ := aM (Kd.R_over' (v := (.slice (some ⟨go22, 0, none⟩) x5_3.length co11)) (by (with_reducible repeat (first | apply rA | apply rN | apply rD)); exact HO_8.out) (Kd.R_typed HO_5.out) (by decide) hg); have n3_ := aM (Kd.R_after (v := (.slice (some ⟨go22, 0, none⟩) x5_3.length co11)) (v1 := (.slice (some ⟨go22, 0, none⟩) x5_3.length co11)) (ok := (fun k_ => some k_ ≠ (.slice (some ⟨go25, 0, none⟩) x6_3.length co25 : Value).ownBlock)) (by (with_reducible repeat (first | apply rA | apply rN | apply rD)); exact Kd.R_mono HO_57.out (fun _ hk => ⟨hk.2, hk.1⟩)) hg (.inl rfl)); have n4_ := aM ((by rw [hw]; exact below_set (HB.out) GB22.out : Below w.heap.size w w60)); clear HO_5; clear HO_6; clear HO_8; clear HO_57; clear HB; have HO_5 := n0_; have HO_6 := n1_; have HO_8 := n2_; have HO_57 := n3_; have HB := n4_; clear n0_ n1_ n2_ n3_ n4_; clear hg hw hp_) | ((with_reducible refine gate_builtin (b := .append) (xs := #[.tmp 84, .tmp 86]) rfl ?_); at_builtin; refine Kd.R_append Kd.string (w0 := w) w.heap.size rfl (.tmp 84) (.tmp 86) 26 9 (.string ⟨#[]⟩) 16 rfl Tryz.underlying26 info9 rfl (by decide) (by omega) (.slice (some ad230) x8_3.length co57) x8_3 t231 [.string t231] (fun _ => True) (fun _ => False) rfl rfl ?aP (fun _ hk => hk.elim) ?aF ?aO ?aB ?aS ?aL ?_; (case aP => exact rfl); (case aB => exact (by repeat (first | (with_reducible first | exact HB.out | apply bA | apply bN | apply bD) | exact HB.out))); (case aF => exact (fun _ _ => trivial)); (case aO => exact (by (with_reducible repeat (first | apply rA | apply rN | apply rD)); exact HO_8.out)); (case aS => exact (below_size (by repeat (first | (with_reducible first | exact HB.out | apply bA | apply bN | apply bD) | exact HB.out)))); (case aL => have := LMc52.out; omega); intro v237 w61 ho hb hg hat; rw [← Ny236.out] at ho; have n0_ := aM (Kd.R_over' (by (with_reducible repeat (first | apply rA | apply rN | apply rD)); exact HO_5.out) (Kd.R_typed (by (with_reducible repeat (first | apply rA | apply rN | apply rD)); exact HO_8.out)) (by decide) hg); have n1_ := aM (Kd.R_over' (by (with_reducible repeat (first | apply rA | apply rN | apply rD)); exact HO_6.out) (Kd.R_typed (by (with_reducible repeat (first | apply rA | apply rN | apply rD)); exact HO_8.out)) (by decide) hg); have n2_ := aM (Kd.R_over' (by (with_reducible repeat (first | apply rA | apply rN | apply rD)); exact HO_57.out) (Kd.R_typed (by (with_reducible repeat (first | apply rA | apply rN | apply rD)); exact HO_8.out)) (by decide) hg); have n3_ := aM (hb); have n4_ := aM (ho); clear HO_5; clear HO_6; clear HO_57; clear HB; clear HO_8; have HO_5 := n0_; have HO_6 := n1_; have HO_57 := n2_; have HB := n3_; have HO238 := n4_; clear n0_ n1_ n2_ n3_ n4_; clear ho hb hg hat))
                              have n0_ := aM (Kd.R_drew HO_5.out)
                              have n1_ := aM (Kd.R_drew HO_6.out)
                              have n2_ := aM (Kd.R_drew HO_57.out)
                              have n3_ := aM (Kd.R_drew HO238.out)
                              have n4_ := aM (below_drew1 HB.out)
                              clear HO_5 HO_6 HO_57 HO238 HB
                              have HO_5 := n0_
                              have HO_6 := n1_
                              have HO_57 := n2_
                              have HO238 := n3_
                              have HB := n4_
                              clear n0_ n1_ n2_ n3_ n4_
                              have p239 : 0 ≤ (t232 : Int) := of_decide_eq_true (by first | (with_reducible assumption) | assumption)
                              have q239 : t232 < (y235.length : Int) := (by have h_ : (t232 : Int) < ((x5_3.length : Int) : Int) := of_decide_eq_true (by first | (with_reducible assumption) | assumption); first | (have e_ := (Kd.R_reads' HO_5.out).1; omega) | simpa only [Ny235.out, List.length_set] using h_)
                              have ql239 : ((t232 : Int) < ((x5_3.length : Int) : Int)) = True := eq_true (of_decide_eq_true (by first | (with_reducible assumption) | assumption))
                              obtain ⟨ad239, e239, hx239_0⟩ := Kd.at_int (Kd.R_reads' HO_5.out).2.2 t232 p239 q239
                              obtain rfl : (⟨go22, 0, none⟩ : Addr) = ad239 := (by injection e239)
                              (first | simp only [add_plain] at hx239_0 | simp only [add_at] at hx239_0 | simp only [Addr.add, Nat.zero_add] at hx239_0 | skip)
                              replace p239 := eq_true p239
                              replace q239 := eq_true q239
                              have p240 : 0 ≤ (t224 : Int) := of_decide_eq_true (by first | (with_reducible assumption) | assumption)
                              have q240 : t224 < (y235.length : Int) := (by have h_ : (t224 : Int) < ((x5_3.length : Int) : Int) := of_decide_eq_true (by first | (with_reducible assumption) | assumption); first | (have e_ := (Kd.R_reads' HO_5.out).1; omega) | simpa only [Ny235.out, List.length_set] using h_)
                              have ql240 : ((t224 : Int) < ((x5_3.length : Int) : Int)) = True := eq_true (of_decide_eq_true (by first | (with_reducible assumption) | assumption))
                              obtain ⟨ad240, e240, hx240_0⟩ := Kd.at_int (Kd.R_reads' HO_5.out).2.2 t224 p240 q240
                              obtain rfl : (⟨go22, 0, none⟩ : Addr) = ad240 := (by injection e240)
                              (first | simp only [add_plain] at hx240_0 | simp only [add_at] at hx240_0 | simp only [Addr.add, Nat.zero_add] at hx240_0 | skip)
                              replace p240 := eq_true p240
                              replace q240 := eq_true q240
                              refine start_ (n := 10) (S := fun w' => w'.cell? ⟨go22, (t232).toNat, none⟩ = some (.int .i64 (rd y235 t232)) ∧ w'.cell? ⟨go22, (t224).toNat, none⟩ = some (.int .i64 (rd y235 t224))) (ds := []) #[F,F,F,F,F,F,F,F,F,F] (by kernel_rfl) rfl rfl ⟨hx239_0, hx240_0⟩ (fun hHeld => ?_); refine with_tabW impl_search.tab21 impl_search.bits21 (fun HT_ HW_ => ?_)
                              generalize w61.drew = w62 at HO_5 HO_6 HO_57 HO238 HB hx239_0 hx240_0 hHeld ⊢
                              refine pure_ (i := 0) (N := some 88) (v := ?_) (a' := ?_) #[T,F,F,F,F,F,F,F,F,F] rfl rfl (any_of HT_.out (by kernel_rfl)) (fun _ _ _ h => h) (Or.inl ⟨by rfl, ?_⟩) ?_ ?_; rotate_left; (next => intro w'; go_simp; with_reducible rfl); rotate_left; next => simp only [Act.put, sA, sB, sC, i64_w, i32_w]; rfl
                              refine pure_ (i := 1) (N := some 89) (v := ?_) (a' := ?_) #[T,T,F,F,F,F,F,F,F,F] rfl rfl (any_of HT_.out (by kernel_rfl)) (fun _ _ _ h => h) (Or.inl ⟨by rfl, ?_⟩) ?_ ?_; rotate_left; (next => intro w'; go_simp; with_reducible rfl); rotate_left; next => simp only [Act.put, sA, sB, sC, i64_w, i32_w]; rfl
                              refine pure_ (i := 2) (N := some 90) (v := ?_) (a' := ?_) #[T,T,T,F,F,F,F,F,F,F] rfl rfl (any_of HT_.out (by kernel_rfl)) (fun _ _ _ h => h) (Or.inl ⟨by rfl, ?_⟩) ?_ ?_; rotate_left; (next => intro w'; go_simp; with_reducible rfl); rotate_left; next => simp only [Act.put, sA, sB, sC, i64_w, i32_w]; rfl
                              refine pure_ (i := 4) (N := some 92) (v := ?_) (a' := ?_) #[T,T,T,F,T,F,F,F,F,F] rfl rfl (any_of HT_.out (by kernel_rfl)) (fun _ _ _ h => h) (Or.inl ⟨by rfl, ?_⟩) ?_ ?_; rotate_left; (next => intro w'; go_simp; with_reducible rfl); rotate_left; next => simp only [Act.put, sA, sB, sC, i64_w, i32_w]; rfl
                              refine pure_ (i := 5) (N := some 93) (v := ?_) (a' := ?_) #[T,T,T,F,T,T,F,F,F,F] rfl rfl (any_of HT_.out (by kernel_rfl)) (fun _ _ _ h => h) (Or.inl ⟨by rfl, ?_⟩) ?_ ?_; rotate_left; (next => intro w'; go_simp; with_reducible rfl); rotate_left; next => simp only [Act.put, sA, sB, sC, i64_w, i32_w]; rfl
                              refine pure_ (i := 6) (N := some 94) (v := ?_) (a' := ?_) #[T,T,T,F,T,T,T,F,F,F] rfl rfl (any_of HT_.out (by kernel_rfl)) (fun _ _ _ h => h) (Or.inl ⟨by rfl, ?_⟩) ?_ ?_; rotate_left; (next => intro w'; go_simp; with_reducible rfl); rotate_left; next => simp only [Act.put, sA, sB, sC, i64_w, i32_w]; rfl
                              refine take_ (i := 3) (N := some 91) (v := ?_) (a' := ?_) #[T,T,T,T,T,T,T,F,F,F] rfl rfl (take_ofW HT_.out HW_.out (by kernel_rfl)) (fun _ _ _ h => h) (Or.inl ⟨by rfl, ?_⟩) hHeld ?_ ?_
                              rotate_left
                              ·rintro w' ⟨s0, s1⟩
                               go_simp
                               with_reducible rfl
                              rotate_left
                              ·simp only [Act.put, sA, sB, sC, i64_w, i32_w]
                               rfl
                              refine take_ (i := 7) (N := some 95) (v := ?_) (a' := ?_) #[T,T,T,T,T,T,T,T,F,F] rfl rfl (take_ofW HT_.out HW_.out (by kernel_rfl)) (fun _ _ _ h => h) (Or.inl ⟨by rfl, ?_⟩) hHeld ?_ ?_
                              rotate_left
                              ·rintro w' ⟨s0, s1⟩
                               go_simp
                               with_reducible rfl
                              rotate_left
                              ·simp only [Act.put, sA, sB, sC, i64_w, i32_w]
                               rfl
                              refine pure_ (i := 8) (N := some 96) (v := ?_) (a' := ?_) #[T,T,T,T,T,T,T,T,T,F] rfl rfl (any_of HT_.out (by kernel_rfl)) (fun _ _ _ h => h) (Or.inl ⟨by rfl, ?_⟩) ?_ ?_; rotate_left; (next => intro w'; go_simp; with_reducible rfl); rotate_left; next => simp only [Act.put, sA, sB, sC, i64_w, i32_w]; rfl
                              refine pure_ (i := 9) (N := some 97) (v := ?_) (a' := ?_) #[T,T,T,T,T,T,T,T,T,T] rfl rfl (any_of HT_.out (by kernel_rfl)) (fun _ _ _ h => h) (Or.inl ⟨by rfl, ?_⟩) ?_ ?_; rotate_left; (next => intro w'; go_simp; with_reducible rfl); rotate_left; next => simp only [Act.put, sA, sB, sC, i64_w, i32_w]; rfl
                              refine done_ (done_of HT_.out (by kernel_rfl)) ?_
                              try go_wp2
                              have n0_ := aM (Kd.R_drew HO_5.out)
                              have n1_ := aM (Kd.R_drew HO_6.out)
                              have n2_ := aM (Kd.R_drew HO_57.out)
                              have n3_ := aM (Kd.R_drew HO238.out)
                              have n4_ := aM (below_drew1 HB.out)
                              clear HO_5 HO_6 HO_57 HO238 HB
                              have HO_5 := n0_
                              have HO_6 := n1_
                              have HO_57 := n2_
                              have HO238 := n3_
                              have HB := n4_
                              clear n0_ n1_ n2_ n3_ n4_
                              have p241 : 0 ≤ (t232 : Int) := of_decide_eq_true (by first | (with_reducible assumption) | assumption)
                              have q241 : t232 < (x6_3.length : Int) := of_decide_eq_true (by first | (with_reducible assumption) | assumption)
                              obtain ⟨ad241, e241, hx241_0⟩ := Kd.at_int (Kd.R_reads' HO_6.out).2.2 t232 p241 q241
                              obtain rfl : (⟨go25, 0, none⟩ : Addr) = ad241 := (by injection e241)
                              (first | simp only [add_plain] at hx241_0 | simp only [add_at] at hx241_0 | simp only [Addr.add, Nat.zero_add] at hx241_0 | skip)
                              replace p241 := eq_true p241
                              replace q241 := eq_true q241
                              have p242 : 0 ≤ (t224 : Int) := of_decide_eq_true (by first | (with_reducible assumption) | assumption)
                              have q242 : t224 < (x6_3.length : Int) := of_decide_eq_true (by first | (with_reducible assumption) | assumption)
                              obtain ⟨ad242, e242, hx242_0⟩ := Kd.at_int (Kd.R_reads' HO_6.out).2.2 t224 p242 q242
                              obtain rfl : (⟨go25, 0, none⟩ : Addr) = ad242 := (by injection e242)
                              (first | simp only [add_plain] at hx242_0 | simp only [add_at] at hx242_0 | simp only [Addr.add, Nat.zero_add] at hx242_0 | skip)
                              replace p242 := eq_true p242
                              replace q242 := eq_true q242
                              have p56 : 0 ≤ (t232 : Int) := of_decide_eq_true (by first | (with_reducible assumption) | assumption)
                              have q56 : (t232 : Int) < ((x6_3.length : Int) : Int) := of_decide_eq_true (by first | (with_reducible assumption) | assumption)
                              obtain ⟨hx56_0, hf56_0⟩ := Kd.R_celln 0 HO_6.out (t232 : Int) p56 q56
                              replace p56 := eq_true p56
                              replace q56 := eq_true q56
                              have HP64 := Kd.R_putn HO_6.out (t232 : Int) (wrap64 ((rd x6_3 t232) + (rd x6_3 t224)))
                              rw [← Ny243.out] at HP64
                              have HQ64 := aM HP64
                              clear HP64
                              refine start_ (n := 11) (S := fun w' => w'.cell? ⟨go25, (t232).toNat, none⟩ = some (.int .i64 (rd x6_3 t232)) ∧ w'.cell? ⟨go25, (t224).toNat, none⟩ = some (.int .i64 (rd x6_3 t224))) (ds := [10]) #[F,F,F,F,F,F,F,F,F,F,F] (by kernel_rfl) rfl rfl ⟨hx241_0, hx242_0⟩ (fun hHeld => ?_); refine with_tabW impl_search.tab22 impl_search.bits22 (fun HT_ HW_ => ?_)
                              generalize w62.drew = w63 at HO_5 HO_6 HO_57 HO238 HB HQ64 hf56_0 hx241_0 hx242_0 hx56_0 hHeld ⊢
                              refine pure_ (i := 0) (N := some 98) (v := ?_) (a' := ?_) #[T,F,F,F,F,F,F,F,F,F,F] rfl rfl (any_of HT_.out (by kernel_rfl)) (fun _ _ _ h => h) (Or.inl ⟨by rfl, ?_⟩) ?_ ?_; rotate_left; (next => intro w'; go_simp; with_reducible rfl); rotate_left; next => simp only [Act.put, sA, sB, sC, i64_w, i32_w]; rfl
                              refine pure_ (i := 1) (N := some 99) (v := ?_) (a' := ?_) #[T,T,F,F,F,F,F,F,F,F,F] rfl rfl (any_of HT_.out (by kernel_rfl)) (fun _ _ _ h => h) (Or.inl ⟨by rfl, ?_⟩) ?_ ?_; rotate_left; (next => intro w'; go_simp; with_reducible rfl); rotate_left; next => simp only [Act.put, sA, sB, sC, i64_w, i32_w]; rfl
                              refine pure_ (i := 2) (N := some 100) (v := ?_) (a' := ?_) #[T,T,T,F,F,F,F,F,F,F,F] rfl rfl (any_of HT_.out (by kernel_rfl)) (fun _ _ _ h => h) (Or.inl ⟨by rfl, ?_⟩) ?_ ?_; rotate_left; (next => intro w'; go_simp; with_reducible rfl); rotate_left; next => simp only [Act.put, sA, sB, sC, i64_w, i32_w]; rfl
                              refine pure_ (i := 4) (N := some 102) (v := ?_) (a' := ?_) #[T,T,T,F,T,F,F,F,F,F,F] rfl rfl (any_of HT_.out (by kernel_rfl)) (fun _ _ _ h => h) (Or.inl ⟨by rfl, ?_⟩) ?_ ?_; rotate_left; (next => intro w'; go_simp; with_reducible rfl); rotate_left; next => simp only [Act.put, sA, sB, sC, i64_w, i32_w]; rfl
                              refine pure_ (i := 5) (N := some 103) (v := ?_) (a' := ?_) #[T,T,T,F,T,T,F,F,F,F,F] rfl rfl (any_of HT_.out (by kernel_rfl)) (fun _ _ _ h => h) (Or.inl ⟨by rfl, ?_⟩) ?_ ?_; rotate_left; (next => intro w'; go_simp; with_reducible rfl); rotate_left; next => simp only [Act.put, sA, sB, sC, i64_w, i32_w]; rfl
                              refine pure_ (i := 6) (N := some 104) (v := ?_) (a' := ?_) #[T,T,T,F,T,T,T,F,F,F,F] rfl rfl (any_of HT_.out (by kernel_rfl)) (fun _ _ _ h => h) (Or.inl ⟨by rfl, ?_⟩) ?_ ?_; rotate_left; (next => intro w'; go_simp; with_reducible rfl); rotate_left; next => simp only [Act.put, sA, sB, sC, i64_w, i32_w]; rfl
                              refine take_ (i := 3) (N := some 101) (v := ?_) (a' := ?_) #[T,T,T,T,T,T,T,F,F,F,F] rfl rfl (take_ofW HT_.out HW_.out (by kernel_rfl)) (fun _ _ _ h => h) (Or.inl ⟨by rfl, ?_⟩) hHeld ?_ ?_
                              rotate_left
                              ·rintro w' ⟨s0, s1⟩
                               go_simp
                               with_reducible rfl
                              rotate_left
                              ·simp only [Act.put, sA, sB, sC, i64_w, i32_w]
                               rfl
                              refine take_ (i := 7) (N := some 105) (v := ?_) (a' := ?_) #[T,T,T,T,T,T,T,T,F,F,F] rfl rfl (take_ofW HT_.out HW_.out (by kernel_rfl)) (fun _ _ _ h => h) (Or.inl ⟨by rfl, ?_⟩) hHeld ?_ ?_
                              rotate_left
                              ·rintro w' ⟨s0, s1⟩
                               go_simp
                               with_reducible rfl
                              rotate_left
                              ·simp only [Act.put, sA, sB, sC, i64_w, i32_w]
                               rfl
                              refine pure_ (i := 8) (N := some 106) (v := ?_) (a' := ?_) #[T,T,T,T,T,T,T,T,T,F,F] rfl rfl (any_of HT_.out (by kernel_rfl)) (fun _ _ _ h => h) (Or.inl ⟨by rfl, ?_⟩) ?_ ?_; rotate_left; (next => intro w'; go_simp; with_reducible rfl); rotate_left; next => simp only [Act.put, sA, sB, sC, i64_w, i32_w]; rfl
                              refine pure_ (i := 9) (N := some 107) (v := ?_) (a' := ?_) #[T,T,T,T,T,T,T,T,T,T,F] rfl rfl (any_of HT_.out (by kernel_rfl)) (fun _ _ _ h => h) (Or.inl ⟨by rfl, ?_⟩) ?_ ?_; rotate_left; (next => intro w'; go_simp; with_reducible rfl); rotate_left; next => simp only [Act.put, sA, sB, sC, i64_w, i32_w]; rfl
                              refine last_ (i := 10) (N := none) #[T,T,T,T,T,T,T,T,T,T,T] rfl rfl (one_of HT_.out (by kernel_rfl)) (by decide) (fun K hK => ?_)
                              refine skip_ (w1 := ?_) (by rfl) rfl ?_ ?_
                              rotate_left
                              ·go_simp
                               rfl
                              refine hK.out _ _ ?_
                              clear hK K
                              refine done_ (done_of HT_.out (by kernel_rfl)) ?_
                              try go_wp2
                              (try simp only [← hl5_3, ← hl6_3])
                              go_roundg k3
                              case measure => have := HK1.out; have := HK2.out; have := HK3.out; omega
                              case rel => exact ⟨(y235), (y243), (y236), (wrap64 (x59_3 + 1)), (by first | rfl | (simp; done) | (simp [*]; done)), H', ⟨by have := HK1.out; have := HK2.out; have := HK3.out; omega⟩, ⟨by (try simp only [hl5_1]); (try simp only [hl5_2]); (try simp only [hl6_2]); (try simp only [hl5_3]); (try simp only [hl6_3]); (with_reducible repeat (first | apply rA | apply rN | apply rD)); exact Kd.R_mono (Kd.R_far (p := ⟨go25, (t232 : Int).toNat, none⟩) (Kd.R_mono HO_5.out (fun k_ hk => (⟨hk, fun e_ => hk.1 (by rw [e_]; rfl)⟩ : _ ∧ k_ ≠ go25))) (fun _ hk => hk.2) (.int .i64 (wrap64 ((rd x6_3 t232) + (rd x6_3 t224))))) (fun _ hk => ⟨hk.1.1, hk.1.2⟩)⟩, ⟨by (try simp only [hl5_1]); (try simp only [hl5_2]); (try simp only [hl6_2]); (try simp only [hl5_3]); (try simp only [hl6_3]); (with_reducible repeat (first | apply rA | apply rN | apply rD)); exact Kd.R_mono HQ64.out (fun _ hk => ⟨hk.2, hk.1⟩)⟩, ⟨by (try simp only [hl5_1]); (try simp only [hl5_2]); (try simp only [hl6_2]); (try simp only [hl5_3]); (try simp only [hl6_3]); (with_reducible repeat (first | apply rA | apply rN | apply rD)); exact Kd.R_mono (Kd.R_far (p := ⟨go25, (t232 : Int).toNat, none⟩) (Kd.R_types (t := 3) HO238.out (by first | exact GG25.out | exact (Kd.R_typed HO_6.out _ rfl).choose_spec) (by decide)) (fun _ hk => hk.2) (.int .i64 (wrap64 ((rd x6_3 t232) + (rd x6_3 t224))))) (fun _ hk => trivial)⟩, ⟨by (try simp only [hl5_1]); (try simp only [hl5_2]); (try simp only [hl6_2]); (try simp only [hl5_3]); (try simp only [hl6_3]); (with_reducible repeat (first | apply rA | apply rN | apply rD)); exact Kd.R_mono (Kd.R_far (p := ⟨go25, (t232 : Int).toNat, none⟩) (Kd.R_mono HO_57.out (fun k_ hk => (⟨hk, fun e_ => hk.1 (by rw [e_]; rfl)⟩ : _ ∧ k_ ≠ go25))) (fun _ hk => hk.2) (.int .i64 (wrap64 ((rd x6_3 t232) + (rd x6_3 t224))))) (fun _ hk => ⟨hk.1.2, hk.1.1⟩)⟩, ⟨by repeat (first | (with_reducible first | exact HB.out | apply bA | apply bN | apply bD | refine bS ?_ GB25.out) | exact HB.out)⟩⟩
                             ·rw [if_neg c55] at H
                              exact absurd H (by simp)
                            ·rw [if_neg c54] at H
                             exact absurd H (by simp)
                           ·rw [if_neg c53] at H
                            have c53b0 : ((rd y235 t232) == (wrap64 ((rd y235 t224) + 1))) = false := beq_eq_false_iff_ne.mpr c53
                            have c53b1 : ((rd y235 t232) != (wrap64 ((rd y235 t224) + 1))) = true := bne_iff_ne.mpr c53
                            have H' := aM H
                            clear H
                            have p229 : 0 ≤ (x59_3 : Int) := of_decide_eq_true (by first | (with_reducible assumption) | assumption)
                            have q229 : x59_3 < (t226.length : Int) := of_decide_eq_true (by first | (with_reducible assumption) | assumption)
                            obtain ⟨ad229, e229, hx229_0⟩ := Kd.at_int (Kd.R_reads' HO_57.out).2.2 x59_3 p229 q229
                            cases e229
                            replace p229 := eq_true p229
                            replace q229 := eq_true q229
                            obtain ⟨Ao65, co65, eo65⟩ := Kd.R_slice HO_8.out
                            subst eo65
                            have p230 : 0 ≤ (x9_2 : Int) := of_decide_eq_true (by first | (with_reducible assumption) | assumption)
                            have q230 : x9_2 < (x8_3.length : Int) := of_decide_eq_true (by first | (with_reducible assumption) | assumption)
                            obtain ⟨ad230, e230, hx230_0⟩ := Kd.at_string (Kd.R_reads' HO_8.out).2.2 x9_2 p230 q230
                            cases e230
                            replace p230 := eq_true p230
                            replace q230 := eq_true q230
                            try go_wp2_with (first | ((with_reducible refine gate_callee (f := 51) rfl ?_); refine goesL_ (some 68) rfl rfl Tryz.func51 (by kernel_rfl) rfl #[.string (rdOf ByteArray.empty x8_3 x9_2), .int .i64 (rd t226 x59_3)] rfl (by (try simp only [List.map_toArray, List.map_cons, List.map_nil]); first | done | rfl | (simp only [List.length_drop, List.length_take]; rfl)) ?_; (with_reducible refine (impl_paired.calls (rdOf ByteArray.empty x8_3 x9_2) (rd t226 x59_3) t231 _ A44.out).mono ?_); rintro e w66 ⟨rfl, hb⟩; refine ⟨_, rfl, ?_⟩; have n0_ := aM (Kd.R_below (by (with_reducible repeat (first | apply rA | apply rN | apply rD)); exact HO_5.out) hb); have n1_ := aM (Kd.R_below (by (with_reducible repeat (first | apply rA | apply rN | apply rD)); exact HO_6.out) hb); have n2_ := aM (Kd.R_below (by (with_reducible repeat (first | apply rA | apply rN | apply rD)); exact HO_8.out) hb); have n3_ := aM (Kd.R_below (by (with_reducible repeat (first | apply rA | apply rN | apply rD)); exact HO_57.out) hb); have n4_ := aM (below_step (by repeat (first | (with_reducible first | exact HB.out | apply bA | apply bN | apply bD) | exact HB.out)) hb); clear HO_5; clear HO_6; clear HO_8; clear HO_57; clear HB; have HO_5 := n0_; have HO_6 := n1_; have HO_8 := n2_; have HO_57 := n3_; have HB := n4_; clear n0_ n1_ n2_ n3_ n4_; (try clear hb); (try clear hb2); (try clear hk); (try clear hi)) | ((with_reducible refine gate_callee (f := 38) rfl ?_); refine goesL_ (some 70) rfl rfl Tryz.func38 (by kernel_rfl) rfl #[.string t231] rfl (by (try simp only [List.map_toArray, List.map_cons, List.map_nil]); first | done | rfl | (simp only [List.length_drop, List.length_take]; rfl)) ?_; (with_reducible refine (impl_number.calls k3 t231 t232 _ A45.out).mono ?_); rintro e w' ⟨rfl, ⟨nd, rfl⟩⟩; refine ⟨_, rfl, ?_⟩; (try (rw [drewN_self w66]; generalize hq_ : World.drewN w66 _ = w66; have n0_ : Aside0 (Kd.R (Kd.int .i64) 3 w66 w.heap.size (fun k_ => some k_ ≠ (.slice (some ⟨go25, 0, none⟩) x6_3.length co25 : Value).ownBlock ∧ some k_ ≠ (.slice (some ad229) t226.length co38 : Value).ownBlock) (.slice (some ⟨go22, 0, none⟩) x5_3.length co11) x5_3) := ⟨by rw [← hq_]; exact (by (with_reducible repeat (first | apply rA | apply rN | apply rD)); exact HO_5.out)⟩; have n1_ : Aside0 (Kd.R (Kd.int .i64) 3 w66 w.heap.size (fun k_ => some k_ ≠ (.slice (some ⟨go22, 0, none⟩) x5_3.length co11 : Value).ownBlock ∧ some k_ ≠ (.slice (some ad229) t226.length co38 : Value).ownBlock) (.slice (some ⟨go25, 0, none⟩) x6_3.length co25) x6_3) := ⟨by rw [← hq_]; exact (by (with_reducible repeat (first | apply rA | apply rN | apply rD)); exact HO_6.out)⟩; have n2_ : Aside0 (Kd.R Kd.string 9 w66 w.heap.size (fun _ => True) (.slice (some ad230) x8_3.length co65) x8_3) := ⟨by rw [← hq_]; exact (by (with_reducible repeat (first | apply rA | apply rN | apply rD)); exact HO_8.out)⟩; have n3_ : Aside0 (Kd.R (Kd.int .i64) 3 w66 w.heap.size (fun k_ => some k_ ≠ (.slice (some ⟨go22, 0, none⟩) x5_3.length co11 : Value).ownBlock ∧ some k_ ≠ (.slice (some ⟨go25, 0, none⟩) x6_3.length co25 : Value).ownBlock) (.slice (some ad229) t226.length co38) t226) := ⟨by rw [← hq_]; exact (by (with_reducible repeat (first | apply rA | apply rN | apply rD)); exact HO_57.out)⟩; have n4_ : Aside0 (Below w.heap.size w w66) := ⟨by rw [← hq_]; exact (by repeat (first | (with_reducible first | exact HB.out | apply bA | apply bN | apply bD) | exact HB.out))⟩; clear HO_5 HO_6 HO_8 HO_57 HB hq_; have HO_5 := n0_; have HO_6 := n1_; have HO_8 := n2_; have HO_57 := n3_; have HB := n4_; clear n0_ n1_ n2_ n3_ n4_)); have p233 : 0 ≤ (t232 : Int) := of_decide_eq_true (by first | (with_reducible assumption) | assumption); have q233 : t232 < (x5_3.length : Int) := of_decide_eq_true (by first | (with_reducible assumption) | assumption); obtain ⟨ad233, e233, hx233_0⟩ := Kd.at_int (Kd.R_reads' HO_5.out).2.2 t232 p233 q233; obtain rfl : (⟨go22, 0, none⟩ : Addr) = ad233 := (by injection e233); (first | simp only [add_plain] at hx233_0 | simp only [add_at] at hx233_0 | simp only [Addr.add, Nat.zero_add] at hx233_0 | skip); replace p233 := eq_true p233; replace q233 := eq_true q233; have p234 : 0 ≤ (t224 : Int) := of_decide_eq_true (by first | (with_reducible assumption) | assumption); have q234 : t224 < (x5_3.length : Int) := of_decide_eq_true (by first | (with_reducible assumption) | assumption); obtain ⟨ad234, e234, hx234_0⟩ := Kd.at_int (Kd.R_reads' HO_5.out).2.2 t224 p234 q234; obtain rfl : (⟨go22, 0, none⟩ : Addr) = ad234 := (by injection e234); (first | simp only [add_plain] at hx234_0 | simp only [add_at] at hx234_0 | simp only [Addr.add, Nat.zero_add] at hx234_0 | skip); replace p234 := eq_true p234; replace q234 := eq_true q234; have p51 : 0 ≤ (t232 : Int) := of_decide_eq_true (by first | (with_reducible assumption) | assumption); have q51 : (t232 : Int) < ((x5_3.length : Int) : Int) := of_decide_eq_true (by first | (with_reducible assumption) | assumption); obtain ⟨hx51_0, hf51_0⟩ := Kd.R_celln 0 HO_5.out (t232 : Int) p51 q51; replace p51 := eq_true p51; replace q51 := eq_true q51; obtain ⟨hy67_, hz67_⟩ := Kd.R_celln 0 HO_5.out (t232 : Int) (of_decide_eq_true (by first | (with_reducible assumption) | assumption)) (of_decide_eq_true (by first | (with_reducible assumption) | assumption)); have HP67 := Kd.R_putg HO_5.out (t232 : Int) (wrap64 ((rd x5_3 t224) + 1))) | ((with_reducible refine gate_store (t := 3) (p := 83) rfl ?_); refine store_event (t := 3) (p := 83) (v := ?vo_w68) (w1 := (w66.setCell ⟨go22, (t232 : Int).toNat, none⟩ (.int .i64 (wrap64 ((rd x5_3 t224) + 1))))) ?hg ?ho ?hn ?hr ?_; (case ho => rfl); (case hg => rfl); (case hn => rfl); (case hr => first | (go_simp; done) | (go_simp; rfl)); intro w68 hw; have hg : w66.grownBy w68 (some go22) := (by rw [hw]; exact HP67.2); have hp_ : Kd.R (Kd.int .i64) 3 w68 w.heap.size (fun k_ => some k_ ≠ (.slice (some ⟨go25, 0, none⟩) x6_3.length co25 : Value).ownBlock ∧ some k_ ≠ (.slice (some ad229) t226.length co38 : Value).ownBlock) (.slice (some ⟨go22, 0, none⟩) x5_3.length co11) y235 := (by rw [hw, Ny235.out]; exact HP67.1); clear HP67; have n0_ := aM (hp_); have n1_ := aM (Kd.R_after (v := (.slice (some ⟨go22, 0, none⟩) x5_3.length co11)) (v1 := (.slice (some ⟨go22, 0, none⟩) x5_3.length co11)) (ok := (fun k_ => some k_ ≠ (.slice (some ad229) t226.length co38 : Value).ownBlock)) (by (with_reducible repeat (first | apply rA | apply rN | apply rD)); exact Kd.R_mono HO_6.out (fun _ hk => ⟨hk.2, hk.1⟩)) hg (.inl rfl)); have n2_ := aM (Kd.R_over' (v := (.slice (some ⟨go22, 0, none⟩) x5_3.length co11)) (by (with_reducible repeat (first | apply rA | apply rN | apply rD)); exact HO_8.out) (Kd.R_typed HO_5.out) (by decide) hg); have n3_ := aM (Kd.R_after (v := (.slice (some ⟨go22, 0, none⟩) x5_3.length co11)) (v1 := (.slice (some ⟨go22, 0, none⟩) x5_3.length co11)) (ok := (fun k_ => some k_ ≠ (.slice (some ⟨go25, 0, none⟩) x6_3.length co25 : Value).ownBlock)) (by (with_reducible repeat (first | apply rA | apply rN | apply rD)); exact Kd.R_mono HO_57.out (fun _ hk => ⟨hk.2, hk.1⟩)) hg (.inl rfl)); have n4_ := aM ((by rw [hw]; exact below_set (HB.out) GB22.out : Below w.heap.size w w68)); clear HO_5; clear HO_6; clear HO_8; clear HO_57; clear HB; have HO_5 := n0_; have HO_6 := n1_; have HO_8 := n2_; have HO_57 := n3_; have HB := n4_; clear n0_ n1_ n2_ n3_ n4_; clear hg hw hp_) | ((with_reducible refine gate_builtin (b := .append) (xs := #[.tmp 84, .tmp 86]) rfl ?_); at_builtin; refine Kd.R_append Kd.string (w0 := w) w.heap.size rfl (.tmp 84) (.tmp 86) 26 9 (.string ⟨#[]⟩) 16 rfl Tryz.underlying26 info9 rfl (by decide) (by omega) (.slice (some ad230) x8_3.length co65) x8_3 t231 [.string t231] (fun _ => True) (fun _ => False) rfl rfl ?aP (fun _ hk => hk.elim) ?aF ?aO ?aB ?aS ?aL ?_; (case aP => exact rfl); (case aB => exact (by repeat (first | (with_reducible first | exact HB.out | apply bA | apply bN | apply bD) | exact HB.out))); (case aF => exact (fun _ _ => trivial)); (case aO => exact (by (with_reducible repeat (first | apply rA | apply rN | apply rD)); exact HO_8.out)); (case aS => exact (below_size (by repeat (first | (with_reducible first | exact HB.out | apply bA | apply bN | apply bD) | exact HB.out)))); (case aL => have := LMc52.out; omega); intro v237 w69 ho hb hg hat; rw [← Ny236.out] at ho; have n0_ := aM (Kd.R_over' (by (with_reducible repeat (first | apply rA | apply rN | apply rD)); exact HO_5.out) (Kd.R_typed (by (with_reducible repeat (first | apply rA | apply rN | apply rD)); exact HO_8.out)) (by decide) hg); have n1_ := aM (Kd.R_over' (by (with_reducible repeat (first | apply rA | apply rN | apply rD)); exact HO_6.out) (Kd.R_typed (by (with_reducible repeat (first | apply rA | apply rN | apply rD)); exact HO_8.out)) (by decide) hg); have n2_ := aM (Kd.R_over' (by (with_reducible repeat (first | apply rA | apply rN | apply rD)); exact HO_57.out) (Kd.R_typed (by (with_reducible repeat (first | apply rA | apply rN | apply rD)); exact HO_8.out)) (by decide) hg); have n3_ := aM (hb); have n4_ := aM (ho); clear HO_5; clear HO_6; clear HO_57; clear HB; clear HO_8; have HO_5 := n0_; have HO_6 := n1_; have HO_57 := n2_; have HB := n3_; have HO238 := n4_; clear n0_ n1_ n2_ n3_ n4_; clear ho hb hg hat))
                            have n0_ := aM (Kd.R_drew HO_5.out)
                            have n1_ := aM (Kd.R_drew HO_6.out)
                            have n2_ := aM (Kd.R_drew HO_57.out)
                            have n3_ := aM (Kd.R_drew HO238.out)
                            have n4_ := aM (below_drew1 HB.out)
                            clear HO_5 HO_6 HO_57 HO238 HB
                            have HO_5 := n0_
                            have HO_6 := n1_
                            have HO_57 := n2_
                            have HO238 := n3_
                            have HB := n4_
                            clear n0_ n1_ n2_ n3_ n4_
                            have p239 : 0 ≤ (t232 : Int) := of_decide_eq_true (by first | (with_reducible assumption) | assumption)
                            have q239 : t232 < (y235.length : Int) := (by have h_ : (t232 : Int) < ((x5_3.length : Int) : Int) := of_decide_eq_true (by first | (with_reducible assumption) | assumption); first | (have e_ := (Kd.R_reads' HO_5.out).1; omega) | simpa only [Ny235.out, List.length_set] using h_)
                            have ql239 : ((t232 : Int) < ((x5_3.length : Int) : Int)) = True := eq_true (of_decide_eq_true (by first | (with_reducible assumption) | assumption))
                            obtain ⟨ad239, e239, hx239_0⟩ := Kd.at_int (Kd.R_reads' HO_5.out).2.2 t232 p239 q239
                            obtain rfl : (⟨go22, 0, none⟩ : Addr) = ad239 := (by injection e239)
                            (first | simp only [add_plain] at hx239_0 | simp only [add_at] at hx239_0 | simp only [Addr.add, Nat.zero_add] at hx239_0 | skip)
                            replace p239 := eq_true p239
                            replace q239 := eq_true q239
                            have p240 : 0 ≤ (t224 : Int) := of_decide_eq_true (by first | (with_reducible assumption) | assumption)
                            have q240 : t224 < (y235.length : Int) := (by have h_ : (t224 : Int) < ((x5_3.length : Int) : Int) := of_decide_eq_true (by first | (with_reducible assumption) | assumption); first | (have e_ := (Kd.R_reads' HO_5.out).1; omega) | simpa only [Ny235.out, List.length_set] using h_)
                            have ql240 : ((t224 : Int) < ((x5_3.length : Int) : Int)) = True := eq_true (of_decide_eq_true (by first | (with_reducible assumption) | assumption))
                            obtain ⟨ad240, e240, hx240_0⟩ := Kd.at_int (Kd.R_reads' HO_5.out).2.2 t224 p240 q240
                            obtain rfl : (⟨go22, 0, none⟩ : Addr) = ad240 := (by injection e240)
                            (first | simp only [add_plain] at hx240_0 | simp only [add_at] at hx240_0 | simp only [Addr.add, Nat.zero_add] at hx240_0 | skip)
                            replace p240 := eq_true p240
                            replace q240 := eq_true q240
                            refine start_ (n := 10) (S := fun w' => w'.cell? ⟨go22, (t232).toNat, none⟩ = some (.int .i64 (rd y235 t232)) ∧ w'.cell? ⟨go22, (t224).toNat, none⟩ = some (.int .i64 (rd y235 t224))) (ds := []) #[F,F,F,F,F,F,F,F,F,F] (by kernel_rfl) rfl rfl ⟨hx239_0, hx240_0⟩ (fun hHeld => ?_); refine with_tabW impl_search.tab21 impl_search.bits21 (fun HT_ HW_ => ?_)
                            generalize w69.drew = w70 at HO_5 HO_6 HO_57 HO238 HB hx239_0 hx240_0 hHeld ⊢
                            refine pure_ (i := 0) (N := some 88) (v := ?_) (a' := ?_) #[T,F,F,F,F,F,F,F,F,F] rfl rfl (any_of HT_.out (by kernel_rfl)) (fun _ _ _ h => h) (Or.inl ⟨by rfl, ?_⟩) ?_ ?_; rotate_left; (next => intro w'; go_simp; with_reducible rfl); rotate_left; next => simp only [Act.put, sA, sB, sC, i64_w, i32_w]; rfl
                            refine pure_ (i := 1) (N := some 89) (v := ?_) (a' := ?_) #[T,T,F,F,F,F,F,F,F,F] rfl rfl (any_of HT_.out (by kernel_rfl)) (fun _ _ _ h => h) (Or.inl ⟨by rfl, ?_⟩) ?_ ?_; rotate_left; (next => intro w'; go_simp; with_reducible rfl); rotate_left; next => simp only [Act.put, sA, sB, sC, i64_w, i32_w]; rfl
                            refine pure_ (i := 2) (N := some 90) (v := ?_) (a' := ?_) #[T,T,T,F,F,F,F,F,F,F] rfl rfl (any_of HT_.out (by kernel_rfl)) (fun _ _ _ h => h) (Or.inl ⟨by rfl, ?_⟩) ?_ ?_; rotate_left; (next => intro w'; go_simp; with_reducible rfl); rotate_left; next => simp only [Act.put, sA, sB, sC, i64_w, i32_w]; rfl
                            refine pure_ (i := 4) (N := some 92) (v := ?_) (a' := ?_) #[T,T,T,F,T,F,F,F,F,F] rfl rfl (any_of HT_.out (by kernel_rfl)) (fun _ _ _ h => h) (Or.inl ⟨by rfl, ?_⟩) ?_ ?_; rotate_left; (next => intro w'; go_simp; with_reducible rfl); rotate_left; next => simp only [Act.put, sA, sB, sC, i64_w, i32_w]; rfl
                            refine pure_ (i := 5) (N := some 93) (v := ?_) (a' := ?_) #[T,T,T,F,T,T,F,F,F,F] rfl rfl (any_of HT_.out (by kernel_rfl)) (fun _ _ _ h => h) (Or.inl ⟨by rfl, ?_⟩) ?_ ?_; rotate_left; (next => intro w'; go_simp; with_reducible rfl); rotate_left; next => simp only [Act.put, sA, sB, sC, i64_w, i32_w]; rfl
                            refine pure_ (i := 6) (N := some 94) (v := ?_) (a' := ?_) #[T,T,T,F,T,T,T,F,F,F] rfl rfl (any_of HT_.out (by kernel_rfl)) (fun _ _ _ h => h) (Or.inl ⟨by rfl, ?_⟩) ?_ ?_; rotate_left; (next => intro w'; go_simp; with_reducible rfl); rotate_left; next => simp only [Act.put, sA, sB, sC, i64_w, i32_w]; rfl
                            refine take_ (i := 3) (N := some 91) (v := ?_) (a' := ?_) #[T,T,T,T,T,T,T,F,F,F] rfl rfl (take_ofW HT_.out HW_.out (by kernel_rfl)) (fun _ _ _ h => h) (Or.inl ⟨by rfl, ?_⟩) hHeld ?_ ?_
                            rotate_left
                            ·rintro w' ⟨s0, s1⟩
                             go_simp
                             with_reducible rfl
                            rotate_left
                            ·simp only [Act.put, sA, sB, sC, i64_w, i32_w]
                             rfl
                            refine take_ (i := 7) (N := some 95) (v := ?_) (a' := ?_) #[T,T,T,T,T,T,T,T,F,F] rfl rfl (take_ofW HT_.out HW_.out (by kernel_rfl)) (fun _ _ _ h => h) (Or.inl ⟨by rfl, ?_⟩) hHeld ?_ ?_
                            rotate_left
                            ·rintro w' ⟨s0, s1⟩
                             go_simp
                             with_reducible rfl
                            rotate_left
                            ·simp only [Act.put, sA, sB, sC, i64_w, i32_w]
                             rfl
                            refine pure_ (i := 8) (N := some 96) (v := ?_) (a' := ?_) #[T,T,T,T,T,T,T,T,T,F] rfl rfl (any_of HT_.out (by kernel_rfl)) (fun _ _ _ h => h) (Or.inl ⟨by rfl, ?_⟩) ?_ ?_; rotate_left; (next => intro w'; go_simp; with_reducible rfl); rotate_left; next => simp only [Act.put, sA, sB, sC, i64_w, i32_w]; rfl
                            refine pure_ (i := 9) (N := some 97) (v := ?_) (a' := ?_) #[T,T,T,T,T,T,T,T,T,T] rfl rfl (any_of HT_.out (by kernel_rfl)) (fun _ _ _ h => h) (Or.inl ⟨by rfl, ?_⟩) ?_ ?_; rotate_left; (next => intro w'; go_simp; with_reducible rfl); rotate_left; next => simp only [Act.put, sA, sB, sC, i64_w, i32_w]; rfl
                            refine done_ (done_of HT_.out (by kernel_rfl)) ?_
                            try go_wp2
                            (try simp only [← hl5_3, ← hl6_3])
                            go_roundg k3
                            case measure => have := HK1.out; have := HK2.out; have := HK3.out; omega
                            case rel => exact ⟨(y235), (x6_3), (y236), (wrap64 (x59_3 + 1)), (by first | rfl | (simp; done) | (simp [*]; done)), H', ⟨by have := HK1.out; have := HK2.out; have := HK3.out; omega⟩, ⟨by (try simp only [hl5_1]); (try simp only [hl5_2]); (try simp only [hl6_2]); (try simp only [hl5_3]); (try simp only [hl6_3]); (with_reducible repeat (first | apply rA | apply rN | apply rD)); exact HO_5.out⟩, ⟨by (try simp only [hl5_1]); (try simp only [hl5_2]); (try simp only [hl6_2]); (try simp only [hl5_3]); (try simp only [hl6_3]); (with_reducible repeat (first | apply rA | apply rN | apply rD)); exact Kd.R_mono HO_6.out (fun _ hk => ⟨hk.2, hk.1⟩)⟩, ⟨by (try simp only [hl5_1]); (try simp only [hl5_2]); (try simp only [hl6_2]); (try simp only [hl5_3]); (try simp only [hl6_3]); (with_reducible repeat (first | apply rA | apply rN | apply rD)); exact HO238.out⟩, ⟨by (try simp only [hl5_1]); (try simp only [hl5_2]); (try simp only [hl6_2]); (try simp only [hl5_3]); (try simp only [hl6_3]); (with_reducible repeat (first | apply rA | apply rN | apply rD)); exact Kd.R_mono HO_57.out (fun _ hk => ⟨hk.2, hk.1⟩)⟩, ⟨by repeat (first | (with_reducible first | exact HB.out | apply bA | apply bN | apply bD) | exact HB.out)⟩⟩
                          ·rw [if_neg c52] at H
                           exact absurd H (by simp)
                         ·rw [if_neg c50] at H
                          exact absurd H (by simp)
                        ·rw [if_neg c49] at H
                         exact absurd H (by simp)
                       ·rw [if_neg c48] at H
                        have c48b0 : decide ((rd x5_3 t232) < 0) = false := decide_eq_false c48
                        clear c48
                        by_cases c71 : 0 ≤ t224
                        ·rw [if_pos c71] at H
                         have c71b0 : decide (0 ≤ t224) = true := decide_eq_true c71
                         clear c71
                         by_cases c72 : t224 < (x5_3.length : Int)
                         ·rw [if_pos c72] at H
                          have c72b0 : decide (t224 < (x5_3.length : Int)) = true := decide_eq_true c72
                          (try (have c72m0 := c72b0; simp only [hl5_1] at c72m0)); (try (have c72m1 := c72b0; simp only [hl5_2] at c72m1)); (try (have c72m2 := c72b0; simp only [hl6_2] at c72m2)); (try (have c72m3 := c72b0; simp only [hl5_3] at c72m3)); (try (have c72m4 := c72b0; simp only [hl6_3] at c72m4))
                          clear c72
                          by_cases c73 : (rd x5_3 t232) = (wrap64 ((rd x5_3 t224) + 1))
                          ·rw [if_pos c73] at H
                           have c73b0 : ((rd x5_3 t232) == (wrap64 ((rd x5_3 t224) + 1))) = true := beq_iff_eq.mpr c73
                           have c73b1 : ((rd x5_3 t232) != (wrap64 ((rd x5_3 t224) + 1))) = false := bne_eq_false_iff_eq.mpr c73
                           clear c73
                           by_cases c74 : t232 < (x6_3.length : Int)
                           ·rw [if_pos c74] at H
                            have c74b0 : decide (t232 < (x6_3.length : Int)) = true := decide_eq_true c74
                            (try (have c74m0 := c74b0; simp only [hl5_1] at c74m0)); (try (have c74m1 := c74b0; simp only [hl5_2] at c74m1)); (try (have c74m2 := c74b0; simp only [hl6_2] at c74m2)); (try (have c74m3 := c74b0; simp only [hl5_3] at c74m3)); (try (have c74m4 := c74b0; simp only [hl6_3] at c74m4))
                            clear c74
                            by_cases c75 : t224 < (x6_3.length : Int)
                            ·rw [if_pos c75] at H
                             have c75b0 : decide (t224 < (x6_3.length : Int)) = true := decide_eq_true c75
                             (try (have c75m0 := c75b0; simp only [hl5_1] at c75m0)); (try (have c75m1 := c75b0; simp only [hl5_2] at c75m1)); (try (have c75m2 := c75b0; simp only [hl6_2] at c75m2)); (try (have c75m3 := c75b0; simp only [hl5_3] at c75m3)); (try (have c75m4 := c75b0; simp only [hl6_3] at c75m4))
                             clear c75
                             obtain ⟨y248, hy248⟩ : ∃ y_ : List Int, y_ = (x6_3.set (t232 : Int).toNat (wrap64 ((rd x6_3 t232) + (rd x6_3 t224)))) := ⟨_, rfl⟩
                             replace H : (impl_search.l2 k3 x5_3 y248 x8_3 x9_2 t224 t226 (t226.length : Int) (wrap64 (x59_3 + 1))) = some (r1, r2, r3) := by first | (rw [hy248]; with_reducible exact H) | (have H2_ := (Option.bind_some _ _).symm.trans H; rw [hy248]; with_reducible exact H2_) | (have H2_ := (Option.bind_some _ _).symm.trans H; with_reducible exact H2_) | with_reducible exact H | (rw [hy248]; exact H) | exact H
                             have Ny248 := aM hy248
                             clear hy248
                             have H' := aM H
                             clear H
                             have p229 : 0 ≤ (x59_3 : Int) := of_decide_eq_true (by first | (with_reducible assumption) | assumption)
                             have q229 : x59_3 < (t226.length : Int) := of_decide_eq_true (by first | (with_reducible assumption) | assumption)
                             obtain ⟨ad229, e229, hx229_0⟩ := Kd.at_int (Kd.R_reads' HO_57.out).2.2 x59_3 p229 q229
                             cases e229
                             replace p229 := eq_true p229
                             replace q229 := eq_true q229
                             obtain ⟨Ao77, co77, eo77⟩ := Kd.R_slice HO_8.out
                             subst eo77
                             have p230 : 0 ≤ (x9_2 : Int) := of_decide_eq_true (by first | (with_reducible assumption) | assumption)
                             have q230 : x9_2 < (x8_3.length : Int) := of_decide_eq_true (by first | (with_reducible assumption) | assumption)
                             obtain ⟨ad230, e230, hx230_0⟩ := Kd.at_string (Kd.R_reads' HO_8.out).2.2 x9_2 p230 q230
                             cases e230
                             replace p230 := eq_true p230
                             replace q230 := eq_true q230
                             try go_wp2_with (first | ((with_reducible refine gate_callee (f := 51) rfl ?_); refine goesL_ (some 68) rfl rfl Tryz.func51 (by kernel_rfl) rfl #[.string (rdOf ByteArray.empty x8_3 x9_2), .int .i64 (rd t226 x59_3)] rfl (by (try simp only [List.map_toArray, List.map_cons, List.map_nil]); first | done | rfl | (simp only [List.length_drop, List.length_take]; rfl)) ?_; (with_reducible refine (impl_paired.calls (rdOf ByteArray.empty x8_3 x9_2) (rd t226 x59_3) t231 _ A44.out).mono ?_); rintro e w78 ⟨rfl, hb⟩; refine ⟨_, rfl, ?_⟩; have n0_ := aM (Kd.R_below (by (with_reducible repeat (first | apply rA | apply rN | apply rD)); exact HO_5.out) hb); have n1_ := aM (Kd.R_below (by (with_reducible repeat (first | apply rA | apply rN | apply rD)); exact HO_6.out) hb); have n2_ := aM (Kd.R_below (by (with_reducible repeat (first | apply rA | apply rN | apply rD)); exact HO_8.out) hb); have n3_ := aM (Kd.R_below (by (with_reducible repeat (first | apply rA | apply rN | apply rD)); exact HO_57.out) hb); have n4_ := aM (below_step (by repeat (first | (with_reducible first | exact HB.out | apply bA | apply bN | apply bD) | exact HB.out)) hb); clear HO_5; clear HO_6; clear HO_8; clear HO_57; clear HB; have HO_5 := n0_; have HO_6 := n1_; have HO_8 := n2_; have HO_57 := n3_; have HB := n4_; clear n0_ n1_ n2_ n3_ n4_; (try clear hb); (try clear hb2); (try clear hk); (try clear hi)) | ((with_reducible refine gate_callee (f := 38) rfl ?_); refine goesL_ (some 70) rfl rfl Tryz.func38 (by kernel_rfl) rfl #[.string t231] rfl (by (try simp only [List.map_toArray, List.map_cons, List.map_nil]); first | done | rfl | (simp only [List.length_drop, List.length_take]; rfl)) ?_; (with_reducible refine (impl_number.calls k3 t231 t232 _ A45.out).mono ?_); rintro e w' ⟨rfl, ⟨nd, rfl⟩⟩; refine ⟨_, rfl, ?_⟩; (try (rw [drewN_self w78]; generalize hq_ : World.drewN w78 _ = w78; have n0_ : Aside0 (Kd.R (Kd.int .i64) 3 w78 w.heap.size (fun k_ => some k_ ≠ (.slice (some ⟨go25, 0, none⟩) x6_3.length co25 : Value).ownBlock ∧ some k_ ≠ (.slice (some ad229) t226.length co38 : Value).ownBlock) (.slice (some ⟨go22, 0, none⟩) x5_3.length co11) x5_3) := ⟨by rw [← hq_]; exact (by (with_reducible repeat (first | apply rA | apply rN | apply rD)); exact HO_5.out)⟩; have n1_ : Aside0 (Kd.R (Kd.int .i64) 3 w78 w.heap.size (fun k_ => some k_ ≠ (.slice (some ⟨go22, 0, none⟩) x5_3.length co11 : Value).ownBlock ∧ some k_ ≠ (.slice (some ad229) t226.length co38 : Value).ownBlock) (.slice (some ⟨go25, 0, none⟩) x6_3.length co25) x6_3) := ⟨by rw [← hq_]; exact (by (with_reducible repeat (first | apply rA | apply rN | apply rD)); exact HO_6.out)⟩; have n2_ : Aside0 (Kd.R Kd.string 9 w78 w.heap.size (fun _ => True) (.slice (some ad230) x8_3.length co77) x8_3) := ⟨by rw [← hq_]; exact (by (with_reducible repeat (first | apply rA | apply rN | apply rD)); exact HO_8.out)⟩; have n3_ : Aside0 (Kd.R (Kd.int .i64) 3 w78 w.heap.size (fun k_ => some k_ ≠ (.slice (some ⟨go22, 0, none⟩) x5_3.length co11 : Value).ownBlock ∧ some k_ ≠ (.slice (some ⟨go25, 0, none⟩) x6_3.length co25 : Value).ownBlock) (.slice (some ad229) t226.length co38) t226) := ⟨by rw [← hq_]; exact (by (with_reducible repeat (first | apply rA | apply rN | apply rD)); exact HO_57.out)⟩; have n4_ : Aside0 (Below w.heap.size w w78) := ⟨by rw [← hq_]; exact (by repeat (first | (with_reducible first | exact HB.out | apply bA | apply bN | apply bD) | exact HB.out))⟩; clear HO_5 HO_6 HO_8 HO_57 HB hq_; have HO_5 := n0_; have HO_6 := n1_; have HO_8 := n2_; have HO_57 := n3_; have HB := n4_; clear n0_ n1_ n2_ n3_ n4_)); have p233 : 0 ≤ (t232 : Int) := of_decide_eq_true (by first | (with_reducible assumption) | assumption); have q233 : t232 < (x5_3.length : Int) := of_decide_eq_true (by first | (with_reducible assumption) | assumption); obtain ⟨ad233, e233, hx233_0⟩ := Kd.at_int (Kd.R_reads' HO_5.out).2.2 t232 p233 q233; obtain rfl : (⟨go22, 0, none⟩ : Addr) = ad233 := (by injection e233); (first | simp only [add_plain] at hx233_0 | simp only [add_at] at hx233_0 | simp only [Addr.add, Nat.zero_add] at hx233_0 | skip); replace p233 := eq_true p233; replace q233 := eq_true q233))
                             have n0_ := aM (Kd.R_drew HO_5.out)
                             have n1_ := aM (Kd.R_drew HO_6.out)
                             have n2_ := aM (Kd.R_drew HO_8.out)
                             have n3_ := aM (Kd.R_drew HO_57.out)
                             have n4_ := aM (below_drew1 HB.out)
                             clear HO_5 HO_6 HO_8 HO_57 HB
                             have HO_5 := n0_
                             have HO_6 := n1_
                             have HO_8 := n2_
                             have HO_57 := n3_
                             have HB := n4_
                             clear n0_ n1_ n2_ n3_ n4_
                             have p244 : 0 ≤ (t232 : Int) := of_decide_eq_true (by first | (with_reducible assumption) | assumption)
                             have q244 : t232 < (x5_3.length : Int) := of_decide_eq_true (by first | (with_reducible assumption) | assumption)
                             obtain ⟨ad244, e244, hx244_0⟩ := Kd.at_int (Kd.R_reads' HO_5.out).2.2 t232 p244 q244
                             obtain rfl : (⟨go22, 0, none⟩ : Addr) = ad244 := (by injection e244)
                             (first | simp only [add_plain] at hx244_0 | simp only [add_at] at hx244_0 | simp only [Addr.add, Nat.zero_add] at hx244_0 | skip)
                             replace p244 := eq_true p244
                             replace q244 := eq_true q244
                             have p245 : 0 ≤ (t224 : Int) := of_decide_eq_true (by first | (with_reducible assumption) | assumption)
                             have q245 : t224 < (x5_3.length : Int) := of_decide_eq_true (by first | (with_reducible assumption) | assumption)
                             obtain ⟨ad245, e245, hx245_0⟩ := Kd.at_int (Kd.R_reads' HO_5.out).2.2 t224 p245 q245
                             obtain rfl : (⟨go22, 0, none⟩ : Addr) = ad245 := (by injection e245)
                             (first | simp only [add_plain] at hx245_0 | simp only [add_at] at hx245_0 | simp only [Addr.add, Nat.zero_add] at hx245_0 | skip)
                             replace p245 := eq_true p245
                             replace q245 := eq_true q245
                             refine start_ (n := 10) (S := fun w' => w'.cell? ⟨go22, (t232).toNat, none⟩ = some (.int .i64 (rd x5_3 t232)) ∧ w'.cell? ⟨go22, (t224).toNat, none⟩ = some (.int .i64 (rd x5_3 t224))) (ds := []) #[F,F,F,F,F,F,F,F,F,F] (by kernel_rfl) rfl rfl ⟨hx244_0, hx245_0⟩ (fun hHeld => ?_); refine with_tabW impl_search.tab21 impl_search.bits21 (fun HT_ HW_ => ?_)
                             generalize w78.drew = w79 at HO_5 HO_6 HO_8 HO_57 HB hx244_0 hx245_0 hHeld ⊢
                             refine pure_ (i := 0) (N := some 88) (v := ?_) (a' := ?_) #[T,F,F,F,F,F,F,F,F,F] rfl rfl (any_of HT_.out (by kernel_rfl)) (fun _ _ _ h => h) (Or.inl ⟨by rfl, ?_⟩) ?_ ?_; rotate_left; (next => intro w'; go_simp; with_reducible rfl); rotate_left; next => simp only [Act.put, sA, sB, sC, i64_w, i32_w]; rfl
                             refine pure_ (i := 1) (N := some 89) (v := ?_) (a' := ?_) #[T,T,F,F,F,F,F,F,F,F] rfl rfl (any_of HT_.out (by kernel_rfl)) (fun _ _ _ h => h) (Or.inl ⟨by rfl, ?_⟩) ?_ ?_; rotate_left; (next => intro w'; go_simp; with_reducible rfl); rotate_left; next => simp only [Act.put, sA, sB, sC, i64_w, i32_w]; rfl
                             refine pure_ (i := 2) (N := some 90) (v := ?_) (a' := ?_) #[T,T,T,F,F,F,F,F,F,F] rfl rfl (any_of HT_.out (by kernel_rfl)) (fun _ _ _ h => h) (Or.inl ⟨by rfl, ?_⟩) ?_ ?_; rotate_left; (next => intro w'; go_simp; with_reducible rfl); rotate_left; next => simp only [Act.put, sA, sB, sC, i64_w, i32_w]; rfl
                             refine pure_ (i := 4) (N := some 92) (v := ?_) (a' := ?_) #[T,T,T,F,T,F,F,F,F,F] rfl rfl (any_of HT_.out (by kernel_rfl)) (fun _ _ _ h => h) (Or.inl ⟨by rfl, ?_⟩) ?_ ?_; rotate_left; (next => intro w'; go_simp; with_reducible rfl); rotate_left; next => simp only [Act.put, sA, sB, sC, i64_w, i32_w]; rfl
                             refine pure_ (i := 5) (N := some 93) (v := ?_) (a' := ?_) #[T,T,T,F,T,T,F,F,F,F] rfl rfl (any_of HT_.out (by kernel_rfl)) (fun _ _ _ h => h) (Or.inl ⟨by rfl, ?_⟩) ?_ ?_; rotate_left; (next => intro w'; go_simp; with_reducible rfl); rotate_left; next => simp only [Act.put, sA, sB, sC, i64_w, i32_w]; rfl
                             refine pure_ (i := 6) (N := some 94) (v := ?_) (a' := ?_) #[T,T,T,F,T,T,T,F,F,F] rfl rfl (any_of HT_.out (by kernel_rfl)) (fun _ _ _ h => h) (Or.inl ⟨by rfl, ?_⟩) ?_ ?_; rotate_left; (next => intro w'; go_simp; with_reducible rfl); rotate_left; next => simp only [Act.put, sA, sB, sC, i64_w, i32_w]; rfl
                             refine take_ (i := 3) (N := some 91) (v := ?_) (a' := ?_) #[T,T,T,T,T,T,T,F,F,F] rfl rfl (take_ofW HT_.out HW_.out (by kernel_rfl)) (fun _ _ _ h => h) (Or.inl ⟨by rfl, ?_⟩) hHeld ?_ ?_
                             rotate_left
                             ·rintro w' ⟨s0, s1⟩
                              go_simp
                              with_reducible rfl
                             rotate_left
                             ·simp only [Act.put, sA, sB, sC, i64_w, i32_w]
                              rfl
                             refine take_ (i := 7) (N := some 95) (v := ?_) (a' := ?_) #[T,T,T,T,T,T,T,T,F,F] rfl rfl (take_ofW HT_.out HW_.out (by kernel_rfl)) (fun _ _ _ h => h) (Or.inl ⟨by rfl, ?_⟩) hHeld ?_ ?_
                             rotate_left
                             ·rintro w' ⟨s0, s1⟩
                              go_simp
                              with_reducible rfl
                             rotate_left
                             ·simp only [Act.put, sA, sB, sC, i64_w, i32_w]
                              rfl
                             refine pure_ (i := 8) (N := some 96) (v := ?_) (a' := ?_) #[T,T,T,T,T,T,T,T,T,F] rfl rfl (any_of HT_.out (by kernel_rfl)) (fun _ _ _ h => h) (Or.inl ⟨by rfl, ?_⟩) ?_ ?_; rotate_left; (next => intro w'; go_simp; with_reducible rfl); rotate_left; next => simp only [Act.put, sA, sB, sC, i64_w, i32_w]; rfl
                             refine pure_ (i := 9) (N := some 97) (v := ?_) (a' := ?_) #[T,T,T,T,T,T,T,T,T,T] rfl rfl (any_of HT_.out (by kernel_rfl)) (fun _ _ _ h => h) (Or.inl ⟨by rfl, ?_⟩) ?_ ?_; rotate_left; (next => intro w'; go_simp; with_reducible rfl); rotate_left; next => simp only [Act.put, sA, sB, sC, i64_w, i32_w]; rfl
                             refine done_ (done_of HT_.out (by kernel_rfl)) ?_
                             try go_wp2
                             have n0_ := aM (Kd.R_drew HO_5.out)
                             have n1_ := aM (Kd.R_drew HO_6.out)
                             have n2_ := aM (Kd.R_drew HO_8.out)
                             have n3_ := aM (Kd.R_drew HO_57.out)
                             have n4_ := aM (below_drew1 HB.out)
                             clear HO_5 HO_6 HO_8 HO_57 HB
                             have HO_5 := n0_
                             have HO_6 := n1_
                             have HO_8 := n2_
                             have HO_57 := n3_
                             have HB := n4_
                             clear n0_ n1_ n2_ n3_ n4_
                             have p246 : 0 ≤ (t232 : Int) := of_decide_eq_true (by first | (with_reducible assumption) | assumption)
                             have q246 : t232 < (x6_3.length : Int) := of_decide_eq_true (by first | (with_reducible assumption) | assumption)
                             obtain ⟨ad246, e246, hx246_0⟩ := Kd.at_int (Kd.R_reads' HO_6.out).2.2 t232 p246 q246
                             obtain rfl : (⟨go25, 0, none⟩ : Addr) = ad246 := (by injection e246)
                             (first | simp only [add_plain] at hx246_0 | simp only [add_at] at hx246_0 | simp only [Addr.add, Nat.zero_add] at hx246_0 | skip)
                             replace p246 := eq_true p246
                             replace q246 := eq_true q246
                             have p247 : 0 ≤ (t224 : Int) := of_decide_eq_true (by first | (with_reducible assumption) | assumption)
                             have q247 : t224 < (x6_3.length : Int) := of_decide_eq_true (by first | (with_reducible assumption) | assumption)
                             obtain ⟨ad247, e247, hx247_0⟩ := Kd.at_int (Kd.R_reads' HO_6.out).2.2 t224 p247 q247
                             obtain rfl : (⟨go25, 0, none⟩ : Addr) = ad247 := (by injection e247)
                             (first | simp only [add_plain] at hx247_0 | simp only [add_at] at hx247_0 | simp only [Addr.add, Nat.zero_add] at hx247_0 | skip)
                             replace p247 := eq_true p247
                             replace q247 := eq_true q247
                             have p76 : 0 ≤ (t232 : Int) := of_decide_eq_true (by first | (with_reducible assumption) | assumption)
                             have q76 : (t232 : Int) < ((x6_3.length : Int) : Int) := of_decide_eq_true (by first | (with_reducible assumption) | assumption)
                             obtain ⟨hx76_0, hf76_0⟩ := Kd.R_celln 0 HO_6.out (t232 : Int) p76 q76
                             replace p76 := eq_true p76
                             replace q76 := eq_true q76
                             have HP81 := Kd.R_putn HO_6.out (t232 : Int) (wrap64 ((rd x6_3 t232) + (rd x6_3 t224)))
                             rw [← Ny248.out] at HP81
                             have HQ81 := aM HP81
                             clear HP81
                             refine start_ (n := 11) (S := fun w' => w'.cell? ⟨go25, (t232).toNat, none⟩ = some (.int .i64 (rd x6_3 t232)) ∧ w'.cell? ⟨go25, (t224).toNat, none⟩ = some (.int .i64 (rd x6_3 t224))) (ds := [10]) #[F,F,F,F,F,F,F,F,F,F,F] (by kernel_rfl) rfl rfl ⟨hx246_0, hx247_0⟩ (fun hHeld => ?_); refine with_tabW impl_search.tab22 impl_search.bits22 (fun HT_ HW_ => ?_)
                             generalize w79.drew = w80 at HO_5 HO_6 HO_8 HO_57 HB HQ81 hf76_0 hx246_0 hx247_0 hx76_0 hHeld ⊢
                             refine pure_ (i := 0) (N := some 98) (v := ?_) (a' := ?_) #[T,F,F,F,F,F,F,F,F,F,F] rfl rfl (any_of HT_.out (by kernel_rfl)) (fun _ _ _ h => h) (Or.inl ⟨by rfl, ?_⟩) ?_ ?_; rotate_left; (next => intro w'; go_simp; with_reducible rfl); rotate_left; next => simp only [Act.put, sA, sB, sC, i64_w, i32_w]; rfl
                             refine pure_ (i := 1) (N := some 99) (v := ?_) (a' := ?_) #[T,T,F,F,F,F,F,F,F,F,F] rfl rfl (any_of HT_.out (by kernel_rfl)) (fun _ _ _ h => h) (Or.inl ⟨by rfl, ?_⟩) ?_ ?_; rotate_left; (next => intro w'; go_simp; with_reducible rfl); rotate_left; next => simp only [Act.put, sA, sB, sC, i64_w, i32_w]; rfl
                             refine pure_ (i := 2) (N := some 100) (v := ?_) (a' := ?_) #[T,T,T,F,F,F,F,F,F,F,F] rfl rfl (any_of HT_.out (by kernel_rfl)) (fun _ _ _ h => h) (Or.inl ⟨by rfl, ?_⟩) ?_ ?_; rotate_left; (next => intro w'; go_simp; with_reducible rfl); rotate_left; next => simp only [Act.put, sA, sB, sC, i64_w, i32_w]; rfl
                             refine pure_ (i := 4) (N := some 102) (v := ?_) (a' := ?_) #[T,T,T,F,T,F,F,F,F,F,F] rfl rfl (any_of HT_.out (by kernel_rfl)) (fun _ _ _ h => h) (Or.inl ⟨by rfl, ?_⟩) ?_ ?_; rotate_left; (next => intro w'; go_simp; with_reducible rfl); rotate_left; next => simp only [Act.put, sA, sB, sC, i64_w, i32_w]; rfl
                             refine pure_ (i := 5) (N := some 103) (v := ?_) (a' := ?_) #[T,T,T,F,T,T,F,F,F,F,F] rfl rfl (any_of HT_.out (by kernel_rfl)) (fun _ _ _ h => h) (Or.inl ⟨by rfl, ?_⟩) ?_ ?_; rotate_left; (next => intro w'; go_simp; with_reducible rfl); rotate_left; next => simp only [Act.put, sA, sB, sC, i64_w, i32_w]; rfl
                             refine pure_ (i := 6) (N := some 104) (v := ?_) (a' := ?_) #[T,T,T,F,T,T,T,F,F,F,F] rfl rfl (any_of HT_.out (by kernel_rfl)) (fun _ _ _ h => h) (Or.inl ⟨by rfl, ?_⟩) ?_ ?_; rotate_left; (next => intro w'; go_simp; with_reducible rfl); rotate_left; next => simp only [Act.put, sA, sB, sC, i64_w, i32_w]; rfl
                             refine take_ (i := 3) (N := some 101) (v := ?_) (a' := ?_) #[T,T,T,T,T,T,T,F,F,F,F] rfl rfl (take_ofW HT_.out HW_.out (by kernel_rfl)) (fun _ _ _ h => h) (Or.inl ⟨by rfl, ?_⟩) hHeld ?_ ?_
                             rotate_left
                             ·rintro w' ⟨s0, s1⟩
                              go_simp
                              with_reducible rfl
                             rotate_left
                             ·simp only [Act.put, sA, sB, sC, i64_w, i32_w]
                              rfl
                             refine take_ (i := 7) (N := some 105) (v := ?_) (a' := ?_) #[T,T,T,T,T,T,T,T,F,F,F] rfl rfl (take_ofW HT_.out HW_.out (by kernel_rfl)) (fun _ _ _ h => h) (Or.inl ⟨by rfl, ?_⟩) hHeld ?_ ?_
                             rotate_left
                             ·rintro w' ⟨s0, s1⟩
                              go_simp
                              with_reducible rfl
                             rotate_left
                             ·simp only [Act.put, sA, sB, sC, i64_w, i32_w]
                              rfl
                             refine pure_ (i := 8) (N := some 106) (v := ?_) (a' := ?_) #[T,T,T,T,T,T,T,T,T,F,F] rfl rfl (any_of HT_.out (by kernel_rfl)) (fun _ _ _ h => h) (Or.inl ⟨by rfl, ?_⟩) ?_ ?_; rotate_left; (next => intro w'; go_simp; with_reducible rfl); rotate_left; next => simp only [Act.put, sA, sB, sC, i64_w, i32_w]; rfl
                             refine pure_ (i := 9) (N := some 107) (v := ?_) (a' := ?_) #[T,T,T,T,T,T,T,T,T,T,F] rfl rfl (any_of HT_.out (by kernel_rfl)) (fun _ _ _ h => h) (Or.inl ⟨by rfl, ?_⟩) ?_ ?_; rotate_left; (next => intro w'; go_simp; with_reducible rfl); rotate_left; next => simp only [Act.put, sA, sB, sC, i64_w, i32_w]; rfl
                             refine last_ (i := 10) (N := none) #[T,T,T,T,T,T,T,T,T,T,T] rfl rfl (one_of HT_.out (by kernel_rfl)) (by decide) (fun K hK => ?_)
                             refine skip_ (w1 := ?_) (by rfl) rfl ?_ ?_
                             rotate_left
                             ·go_simp
                              rfl
                             refine hK.out _ _ ?_
                             clear hK K
                             refine done_ (done_of HT_.out (by kernel_rfl)) ?_
                             try go_wp2
                             (try simp only [← hl5_3, ← hl6_3])
                             go_roundg k3
                             case measure => have := HK1.out; have := HK2.out; have := HK3.out; omega
                             case rel => exact ⟨(x5_3), (y248), (x8_3), (wrap64 (x59_3 + 1)), (by first | rfl | (simp; done) | (simp [*]; done)), H', ⟨by have := HK1.out; have := HK2.out; have := HK3.out; omega⟩, ⟨by (try simp only [hl5_1]); (try simp only [hl5_2]); (try simp only [hl6_2]); (try simp only [hl5_3]); (try simp only [hl6_3]); (with_reducible repeat (first | apply rA | apply rN | apply rD)); exact Kd.R_mono (Kd.R_far (p := ⟨go25, (t232 : Int).toNat, none⟩) (Kd.R_mono HO_5.out (fun k_ hk => (⟨hk, fun e_ => hk.1 (by rw [e_]; rfl)⟩ : _ ∧ k_ ≠ go25))) (fun _ hk => hk.2) (.int .i64 (wrap64 ((rd x6_3 t232) + (rd x6_3 t224))))) (fun _ hk => ⟨hk.1.1, hk.1.2⟩)⟩, ⟨by (try simp only [hl5_1]); (try simp only [hl5_2]); (try simp only [hl6_2]); (try simp only [hl5_3]); (try simp only [hl6_3]); (with_reducible repeat (first | apply rA | apply rN | apply rD)); exact HQ81.out⟩, ⟨by (try simp only [hl5_1]); (try simp only [hl5_2]); (try simp only [hl6_2]); (try simp only [hl5_3]); (try simp only [hl6_3]); (with_reducible repeat (first | apply rA | apply rN | apply rD)); exact Kd.R_mono (Kd.R_far (p := ⟨go25, (t232 : Int).toNat, none⟩) (Kd.R_types (t := 3) HO_8.out (by first | exact GG25.out | exact (Kd.R_typed HO_6.out _ rfl).choose_spec) (by decide)) (fun _ hk => hk.2) (.int .i64 (wrap64 ((rd x6_3 t232) + (rd x6_3 t224))))) (fun _ hk => trivial)⟩, ⟨by (try simp only [hl5_1]); (try simp only [hl5_2]); (try simp only [hl6_2]); (try simp only [hl5_3]); (try simp only [hl6_3]); (with_reducible repeat (first | apply rA | apply rN | apply rD)); exact Kd.R_mono (Kd.R_far (p := ⟨go25, (t232 : Int).toNat, none⟩) (Kd.R_mono HO_57.out (fun k_ hk => (⟨hk, fun e_ => hk.2 (by rw [e_]; rfl)⟩ : _ ∧ k_ ≠ go25))) (fun _ hk => hk.2) (.int .i64 (wrap64 ((rd x6_3 t232) + (rd x6_3 t224))))) (fun _ hk => ⟨hk.1.1, hk.1.2⟩)⟩, ⟨by repeat (first | (with_reducible first | exact HB.out | apply bA | apply bN | apply bD | refine bS ?_ GB25.out) | exact HB.out)⟩⟩
                            ·rw [if_neg c75] at H
                             exact absurd H (by simp)
                           ·rw [if_neg c74] at H
                            exact absurd H (by simp)
                          ·rw [if_neg c73] at H
                           have c73b0 : ((rd x5_3 t232) == (wrap64 ((rd x5_3 t224) + 1))) = false := beq_eq_false_iff_ne.mpr c73
                           have c73b1 : ((rd x5_3 t232) != (wrap64 ((rd x5_3 t224) + 1))) = true := bne_iff_ne.mpr c73
                           have H' := aM H
                           clear H
                           have p229 : 0 ≤ (x59_3 : Int) := of_decide_eq_true (by first | (with_reducible assumption) | assumption)
                           have q229 : x59_3 < (t226.length : Int) := of_decide_eq_true (by first | (with_reducible assumption) | assumption)
                           obtain ⟨ad229, e229, hx229_0⟩ := Kd.at_int (Kd.R_reads' HO_57.out).2.2 x59_3 p229 q229
                           cases e229
                           replace p229 := eq_true p229
                           replace q229 := eq_true q229
                           obtain ⟨Ao82, co82, eo82⟩ := Kd.R_slice HO_8.out
                           subst eo82
                           have p230 : 0 ≤ (x9_2 : Int) := of_decide_eq_true (by first | (with_reducible assumption) | assumption)
                           have q230 : x9_2 < (x8_3.length : Int) := of_decide_eq_true (by first | (with_reducible assumption) | assumption)
                           obtain ⟨ad230, e230, hx230_0⟩ := Kd.at_string (Kd.R_reads' HO_8.out).2.2 x9_2 p230 q230
                           cases e230
                           replace p230 := eq_true p230
                           replace q230 := eq_true q230
                           try go_wp2_with (first | ((with_reducible refine gate_callee (f := 51) rfl ?_); refine goesL_ (some 68) rfl rfl Tryz.func51 (by kernel_rfl) rfl #[.string (rdOf ByteArray.empty x8_3 x9_2), .int .i64 (rd t226 x59_3)] rfl (by (try simp only [List.map_toArray, List.map_cons, List.map_nil]); first | done | rfl | (simp only [List.length_drop, List.length_take]; rfl)) ?_; (with_reducible refine (impl_paired.calls (rdOf ByteArray.empty x8_3 x9_2) (rd t226 x59_3) t231 _ A44.out).mono ?_); rintro e w83 ⟨rfl, hb⟩; refine ⟨_, rfl, ?_⟩; have n0_ := aM (Kd.R_below (by (with_reducible repeat (first | apply rA | apply rN | apply rD)); exact HO_5.out) hb); have n1_ := aM (Kd.R_below (by (with_reducible repeat (first | apply rA | apply rN | apply rD)); exact HO_6.out) hb); have n2_ := aM (Kd.R_below (by (with_reducible repeat (first | apply rA | apply rN | apply rD)); exact HO_8.out) hb); have n3_ := aM (Kd.R_below (by (with_reducible repeat (first | apply rA | apply rN | apply rD)); exact HO_57.out) hb); have n4_ := aM (below_step (by repeat (first | (with_reducible first | exact HB.out | apply bA | apply bN | apply bD) | exact HB.out)) hb); clear HO_5; clear HO_6; clear HO_8; clear HO_57; clear HB; have HO_5 := n0_; have HO_6 := n1_; have HO_8 := n2_; have HO_57 := n3_; have HB := n4_; clear n0_ n1_ n2_ n3_ n4_; (try clear hb); (try clear hb2); (try clear hk); (try clear hi)) | ((with_reducible refine gate_callee (f := 38) rfl ?_); refine goesL_ (some 70) rfl rfl Tryz.func38 (by kernel_rfl) rfl #[.string t231] rfl (by (try simp only [List.map_toArray, List.map_cons, List.map_nil]); first | done | rfl | (simp only [List.length_drop, List.length_take]; rfl)) ?_; (with_reducible refine (impl_number.calls k3 t231 t232 _ A45.out).mono ?_); rintro e w' ⟨rfl, ⟨nd, rfl⟩⟩; refine ⟨_, rfl, ?_⟩; have p233 : 0 ≤ (t232 : Int) := of_decide_eq_true (by first | (with_reducible assumption) | assumption); have q233 : t232 < (x5_3.length : Int) := of_decide_eq_true (by first | (with_reducible assumption) | assumption); obtain ⟨ad233, e233, hx233_0⟩ := Kd.at_int (Kd.R_reads' HO_5.out).2.2 t232 p233 q233; obtain rfl : (⟨go22, 0, none⟩ : Addr) = ad233 := (by injection e233); (first | simp only [add_plain] at hx233_0 | simp only [add_at] at hx233_0 | simp only [Addr.add, Nat.zero_add] at hx233_0 | skip); replace p233 := eq_true p233; replace q233 := eq_true q233))
                           (try (rw [drewN_self w83]; generalize hq_ : World.drewN w83 _ = w83; have n0_ : Aside0 (Kd.R (Kd.int .i64) 3 w83 w.heap.size (fun k_ => some k_ ≠ (.slice (some ⟨go25, 0, none⟩) x6_3.length co25 : Value).ownBlock ∧ some k_ ≠ (.slice (some ad229) t226.length co38 : Value).ownBlock) (.slice (some ⟨go22, 0, none⟩) x5_3.length co11) x5_3) := ⟨by rw [← hq_]; exact (by (with_reducible repeat (first | apply rA | apply rN | apply rD)); exact HO_5.out)⟩; have n1_ : Aside0 (Kd.R (Kd.int .i64) 3 w83 w.heap.size (fun k_ => some k_ ≠ (.slice (some ⟨go22, 0, none⟩) x5_3.length co11 : Value).ownBlock ∧ some k_ ≠ (.slice (some ad229) t226.length co38 : Value).ownBlock) (.slice (some ⟨go25, 0, none⟩) x6_3.length co25) x6_3) := ⟨by rw [← hq_]; exact (by (with_reducible repeat (first | apply rA | apply rN | apply rD)); exact HO_6.out)⟩; have n2_ : Aside0 (Kd.R Kd.string 9 w83 w.heap.size (fun _ => True) (.slice (some ad230) x8_3.length co82) x8_3) := ⟨by rw [← hq_]; exact (by (with_reducible repeat (first | apply rA | apply rN | apply rD)); exact HO_8.out)⟩; have n3_ : Aside0 (Kd.R (Kd.int .i64) 3 w83 w.heap.size (fun k_ => some k_ ≠ (.slice (some ⟨go22, 0, none⟩) x5_3.length co11 : Value).ownBlock ∧ some k_ ≠ (.slice (some ⟨go25, 0, none⟩) x6_3.length co25 : Value).ownBlock) (.slice (some ad229) t226.length co38) t226) := ⟨by rw [← hq_]; exact (by (with_reducible repeat (first | apply rA | apply rN | apply rD)); exact HO_57.out)⟩; have n4_ : Aside0 (Below w.heap.size w w83) := ⟨by rw [← hq_]; exact (by repeat (first | (with_reducible first | exact HB.out | apply bA | apply bN | apply bD) | exact HB.out))⟩; clear HO_5 HO_6 HO_8 HO_57 HB hq_; have HO_5 := n0_; have HO_6 := n1_; have HO_8 := n2_; have HO_57 := n3_; have HB := n4_; clear n0_ n1_ n2_ n3_ n4_))
                           have n0_ := aM (Kd.R_drew HO_5.out)
                           have n1_ := aM (Kd.R_drew HO_6.out)
                           have n2_ := aM (Kd.R_drew HO_8.out)
                           have n3_ := aM (Kd.R_drew HO_57.out)
                           have n4_ := aM (below_drew1 HB.out)
                           clear HO_5 HO_6 HO_8 HO_57 HB
                           have HO_5 := n0_
                           have HO_6 := n1_
                           have HO_8 := n2_
                           have HO_57 := n3_
                           have HB := n4_
                           clear n0_ n1_ n2_ n3_ n4_
                           have p244 : 0 ≤ (t232 : Int) := of_decide_eq_true (by first | (with_reducible assumption) | assumption)
                           have q244 : t232 < (x5_3.length : Int) := of_decide_eq_true (by first | (with_reducible assumption) | assumption)
                           obtain ⟨ad244, e244, hx244_0⟩ := Kd.at_int (Kd.R_reads' HO_5.out).2.2 t232 p244 q244
                           obtain rfl : (⟨go22, 0, none⟩ : Addr) = ad244 := (by injection e244)
                           (first | simp only [add_plain] at hx244_0 | simp only [add_at] at hx244_0 | simp only [Addr.add, Nat.zero_add] at hx244_0 | skip)
                           replace p244 := eq_true p244
                           replace q244 := eq_true q244
                           have p245 : 0 ≤ (t224 : Int) := of_decide_eq_true (by first | (with_reducible assumption) | assumption)
                           have q245 : t224 < (x5_3.length : Int) := of_decide_eq_true (by first | (with_reducible assumption) | assumption)
                           obtain ⟨ad245, e245, hx245_0⟩ := Kd.at_int (Kd.R_reads' HO_5.out).2.2 t224 p245 q245
                           obtain rfl : (⟨go22, 0, none⟩ : Addr) = ad245 := (by injection e245)
                           (first | simp only [add_plain] at hx245_0 | simp only [add_at] at hx245_0 | simp only [Addr.add, Nat.zero_add] at hx245_0 | skip)
                           replace p245 := eq_true p245
                           replace q245 := eq_true q245
                           refine start_ (n := 10) (S := fun w' => w'.cell? ⟨go22, (t232).toNat, none⟩ = some (.int .i64 (rd x5_3 t232)) ∧ w'.cell? ⟨go22, (t224).toNat, none⟩ = some (.int .i64 (rd x5_3 t224))) (ds := []) #[F,F,F,F,F,F,F,F,F,F] (by kernel_rfl) rfl rfl ⟨hx244_0, hx245_0⟩ (fun hHeld => ?_); refine with_tabW impl_search.tab21 impl_search.bits21 (fun HT_ HW_ => ?_)
                           generalize w83.drew = w84 at HO_5 HO_6 HO_8 HO_57 HB hx244_0 hx245_0 hHeld ⊢
                           refine pure_ (i := 0) (N := some 88) (v := ?_) (a' := ?_) #[T,F,F,F,F,F,F,F,F,F] rfl rfl (any_of HT_.out (by kernel_rfl)) (fun _ _ _ h => h) (Or.inl ⟨by rfl, ?_⟩) ?_ ?_; rotate_left; (next => intro w'; go_simp; with_reducible rfl); rotate_left; next => simp only [Act.put, sA, sB, sC, i64_w, i32_w]; rfl
                           refine pure_ (i := 1) (N := some 89) (v := ?_) (a' := ?_) #[T,T,F,F,F,F,F,F,F,F] rfl rfl (any_of HT_.out (by kernel_rfl)) (fun _ _ _ h => h) (Or.inl ⟨by rfl, ?_⟩) ?_ ?_; rotate_left; (next => intro w'; go_simp; with_reducible rfl); rotate_left; next => simp only [Act.put, sA, sB, sC, i64_w, i32_w]; rfl
                           refine pure_ (i := 2) (N := some 90) (v := ?_) (a' := ?_) #[T,T,T,F,F,F,F,F,F,F] rfl rfl (any_of HT_.out (by kernel_rfl)) (fun _ _ _ h => h) (Or.inl ⟨by rfl, ?_⟩) ?_ ?_; rotate_left; (next => intro w'; go_simp; with_reducible rfl); rotate_left; next => simp only [Act.put, sA, sB, sC, i64_w, i32_w]; rfl
                           refine pure_ (i := 4) (N := some 92) (v := ?_) (a' := ?_) #[T,T,T,F,T,F,F,F,F,F] rfl rfl (any_of HT_.out (by kernel_rfl)) (fun _ _ _ h => h) (Or.inl ⟨by rfl, ?_⟩) ?_ ?_; rotate_left; (next => intro w'; go_simp; with_reducible rfl); rotate_left; next => simp only [Act.put, sA, sB, sC, i64_w, i32_w]; rfl
                           refine pure_ (i := 5) (N := some 93) (v := ?_) (a' := ?_) #[T,T,T,F,T,T,F,F,F,F] rfl rfl (any_of HT_.out (by kernel_rfl)) (fun _ _ _ h => h) (Or.inl ⟨by rfl, ?_⟩) ?_ ?_; rotate_left; (next => intro w'; go_simp; with_reducible rfl); rotate_left; next => simp only [Act.put, sA, sB, sC, i64_w, i32_w]; rfl
                           refine pure_ (i := 6) (N := some 94) (v := ?_) (a' := ?_) #[T,T,T,F,T,T,T,F,F,F] rfl rfl (any_of HT_.out (by kernel_rfl)) (fun _ _ _ h => h) (Or.inl ⟨by rfl, ?_⟩) ?_ ?_; rotate_left; (next => intro w'; go_simp; with_reducible rfl); rotate_left; next => simp only [Act.put, sA, sB, sC, i64_w, i32_w]; rfl
                           refine take_ (i := 3) (N := some 91) (v := ?_) (a' := ?_) #[T,T,T,T,T,T,T,F,F,F] rfl rfl (take_ofW HT_.out HW_.out (by kernel_rfl)) (fun _ _ _ h => h) (Or.inl ⟨by rfl, ?_⟩) hHeld ?_ ?_
                           rotate_left
                           ·rintro w' ⟨s0, s1⟩
                            go_simp
                            with_reducible rfl
                           rotate_left
                           ·simp only [Act.put, sA, sB, sC, i64_w, i32_w]
                            rfl
                           refine take_ (i := 7) (N := some 95) (v := ?_) (a' := ?_) #[T,T,T,T,T,T,T,T,F,F] rfl rfl (take_ofW HT_.out HW_.out (by kernel_rfl)) (fun _ _ _ h => h) (Or.inl ⟨by rfl, ?_⟩) hHeld ?_ ?_
                           rotate_left
                           ·rintro w' ⟨s0, s1⟩
                            go_simp
                            with_reducible rfl
                           rotate_left
                           ·simp only [Act.put, sA, sB, sC, i64_w, i32_w]
                            rfl
                           refine pure_ (i := 8) (N := some 96) (v := ?_) (a' := ?_) #[T,T,T,T,T,T,T,T,T,F] rfl rfl (any_of HT_.out (by kernel_rfl)) (fun _ _ _ h => h) (Or.inl ⟨by rfl, ?_⟩) ?_ ?_; rotate_left; (next => intro w'; go_simp; with_reducible rfl); rotate_left; next => simp only [Act.put, sA, sB, sC, i64_w, i32_w]; rfl
                           refine pure_ (i := 9) (N := some 97) (v := ?_) (a' := ?_) #[T,T,T,T,T,T,T,T,T,T] rfl rfl (any_of HT_.out (by kernel_rfl)) (fun _ _ _ h => h) (Or.inl ⟨by rfl, ?_⟩) ?_ ?_; rotate_left; (next => intro w'; go_simp; with_reducible rfl); rotate_left; next => simp only [Act.put, sA, sB, sC, i64_w, i32_w]; rfl
                           refine done_ (done_of HT_.out (by kernel_rfl)) ?_
                           try go_wp2
                           (try simp only [← hl5_3, ← hl6_3])
                           go_roundg k3
                           case measure => have := HK1.out; have := HK2.out; have := HK3.out; omega
                           case rel => exact ⟨(x5_3), (x6_3), (x8_3), (wrap64 (x59_3 + 1)), (by first | rfl | (simp; done) | (simp [*]; done)), H', ⟨by have := HK1.out; have := HK2.out; have := HK3.out; omega⟩, ⟨by (try simp only [hl5_1]); (try simp only [hl5_2]); (try simp only [hl6_2]); (try simp only [hl5_3]); (try simp only [hl6_3]); (with_reducible repeat (first | apply rA | apply rN | apply rD)); exact HO_5.out⟩, ⟨by (try simp only [hl5_1]); (try simp only [hl5_2]); (try simp only [hl6_2]); (try simp only [hl5_3]); (try simp only [hl6_3]); (with_reducible repeat (first | apply rA | apply rN | apply rD)); exact HO_6.out⟩, ⟨by (try simp only [hl5_1]); (try simp only [hl5_2]); (try simp only [hl6_2]); (try simp only [hl5_3]); (try simp only [hl6_3]); (with_reducible repeat (first | apply rA | apply rN | apply rD)); exact HO_8.out⟩, ⟨by (try simp only [hl5_1]); (try simp only [hl5_2]); (try simp only [hl6_2]); (try simp only [hl5_3]); (try simp only [hl6_3]); (with_reducible repeat (first | apply rA | apply rN | apply rD)); exact HO_57.out⟩, ⟨by repeat (first | (with_reducible first | exact HB.out | apply bA | apply bN | apply bD) | exact HB.out)⟩⟩
                         ·rw [if_neg c72] at H
                          exact absurd H (by simp)
                        ·rw [if_neg c71] at H
                         exact absurd H (by simp)
                      ·rw [if_neg c47] at H
                       exact absurd H (by simp)
                     ·rw [if_neg c46] at H
                      exact absurd H (by simp)
                    ·rw [if_neg c43] at H
                     exact absurd H (by simp)
                   ·rw [if_neg c42] at H
                    exact absurd H (by simp)
                  ·rw [if_neg c41] at H
                   exact absurd H (by simp)
                 ·rw [if_neg c40] at H
                  exact absurd H (by simp)
                ·rw [if_neg c39] at H
                 have c39b0 : decide (x59_3 < (t226.length : Int)) = false := decide_eq_false c39
                 (try (have c39m0 := c39b0; simp only [hl5_1] at c39m0)); (try (have c39m1 := c39b0; simp only [hl5_2] at c39m1)); (try (have c39m2 := c39b0; simp only [hl6_2] at c39m2)); (try (have c39m3 := c39b0; simp only [hl5_3] at c39m3)); (try (have c39m4 := c39b0; simp only [hl6_3] at c39m4))
                 clear c39
                 have H' := aM H
                 clear H
                 go_wp2
                 (try simp only [← hl5_2, ← hl6_2, ← hl5_3, ← hl6_3])
                 go_roundg k3
                 case measure => have := HK1.out; have := HK2.out; have := HK3.out; omega
                 case rel => exact ⟨(x5_3), (x6_3), (x8_3), (wrap64 (x9_2 + 1)), (by first | rfl | (simp; done) | (simp [*]; done)), H', ⟨by have := HK1.out; have := HK2.out; have := HK3.out; omega⟩, ⟨by (try simp only [hl5_1]); (try simp only [hl5_2]); (try simp only [hl6_2]); (try simp only [hl5_3]); (try simp only [hl6_3]); (with_reducible repeat (first | apply rA | apply rN | apply rD)); exact Kd.R_mono HO_5.out (fun _ hk => hk.1)⟩, ⟨by (try simp only [hl5_1]); (try simp only [hl5_2]); (try simp only [hl6_2]); (try simp only [hl5_3]); (try simp only [hl6_3]); (with_reducible repeat (first | apply rA | apply rN | apply rD)); exact Kd.R_mono HO_6.out (fun _ hk => hk.1)⟩, ⟨by (try simp only [hl5_1]); (try simp only [hl5_2]); (try simp only [hl6_2]); (try simp only [hl5_3]); (try simp only [hl6_3]); (with_reducible repeat (first | apply rA | apply rN | apply rD)); exact HO_8.out⟩, ⟨by repeat (first | (with_reducible first | exact HB.out | apply bA | apply bN | apply bD) | exact HB.out)⟩⟩
             ·rw [if_neg c33] at H
              exact absurd H (by simp)
            ·rw [if_neg c32] at H
             have c32b0 : decide (x9_2 < (x8_2.length : Int)) = false := decide_eq_false c32
             (try (have c32m0 := c32b0; simp only [hl5_1] at c32m0)); (try (have c32m1 := c32b0; simp only [hl5_2] at c32m1)); (try (have c32m2 := c32b0; simp only [hl6_2] at c32m2))
             clear c32
             simp only [Option.some.injEq, Prod.mk.injEq] at H
             obtain ⟨rfl, rfl, rfl⟩ := H
             obtain ⟨Ao85, co85, eo85⟩ := Kd.R_slice HO_8.out
             subst eo85
             go_wp2
             go_ret3
             exact ⟨_, _, _, by first | rfl | (simp [errW_none, errW_some] <;> rfl) | (simp only [← hji2]; first | rfl | (simp [errW_none, errW_some] <;> rfl)) | (simp [*, errW_none, errW_some] <;> rfl), by (with_reducible repeat (first | apply rA | apply rN | apply rD)); exact HO_5.out, by (with_reducible repeat (first | apply rA | apply rN | apply rD)); exact HO_6.out, by (with_reducible repeat (first | apply rA | apply rN | apply rD)); exact HO_8.out, by repeat (first | (with_reducible first | exact HB.out | apply bA | apply bN | apply bD) | exact HB.out)⟩
         ·rw [if_neg c24] at H
          exact absurd H (by simp)
        ·rw [if_neg c23] at H
         exact absurd H (by simp)
       ·rw [if_neg c21] at H
        exact absurd H (by simp)
      ·rw [if_neg c20] at H
       exact absurd H (by simp)
  ·rw [if_neg c4] at H
   exact absurd H (by simp)
 ·rw [if_neg c3] at H
  exact absurd H (by simp)

end Go.Proofs.YtgfjgpnaalblbaaGreatDoor.PN
