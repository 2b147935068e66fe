-- written by a program of this session's (wip/tools), over the kit's print
import Derived.Test.YtgfjgpnaalblbaaGreatDoorPNx0
import Derived.Test.YtgfjgpnaalblbaaGreatDoorPNx4
import Derived.Test.YtgfjgpnaalblbaaGreatDoorPNx5
-- squeezed
-- squeezed twice
namespace Go.Proofs.YtgfjgpnaalblbaaGreatDoor.PN
open Go.RowKit Go.Proofs.YtgfjgpnaalblbaaGreatDoorW.PrintWords Go.Proofs.YtgfjgpnaalblbaaGreatDoorW.PrintLast Go.Proofs.YtgfjgpnaalblbaaGreatDoorW.PrintMore
attribute [local go_sem] max2_int min2_int max_two min_two max_three min_three max_four min_four   -- for this text's walks alone
set_option linter.unusedVariables false
set_option linter.unusedSimpArgs false

/-! ### spec_twFar: function 32 -/
mutual
def spec_twFar.l0 : Nat → ByteArray → List Int → List Int → Int → Int → Option (List Int × List Int)
 | 0, _, _, _, _, _ => none
 | k + 1, x0, x4, x5, x24, x25 => if x25 < x24 then (if 0 ≤ x25 then (if x25 < (x4.length : Int) then (spec_twFar.l0 k x0 (x4.set (x25 : Int).toNat (-1)) x5 x24 (wrap64 (x25 + 1))) else (none)) else (none)) else ((spec_riNumber.f k x0).bind fun t283 => (if 0 ≤ t283 then (if t283 < (x4.length : Int) then (if t283 < (x5.length : Int) then (spec_twFar.l1 k (x4.set (t283 : Int).toNat 0) (x5.set (t283 : Int).toNat 1) (([x0] : List ByteArray)) 0) else (none)) else (none)) else (none)))
def spec_twFar.l1 : Nat → List Int → List Int → List ByteArray → Int → Option (List Int × List Int)
 | 0, _, _, _, _ => none
 | k + 1, x4, x5, x8, x9 => if x9 < (x8.length : Int) then (if 0 ≤ x9 then ((spec_riNumber.f k (rdOf ByteArray.empty x8 x9)).bind fun t290 => ((spec_twMoves.f k (rdOf ByteArray.empty x8 x9)).bind fun t292 => (spec_twFar.l2 k x4 x5 x8 x9 t290 t292 (t292.length : Int) 0))) else (none)) else (some (x4, x5))
def spec_twFar.l2 : Nat → List Int → List Int → List ByteArray → Int → Int → List Int → Int → Int → Option (List Int × List Int)
 | 0, _, _, _, _, _, _, _, _ => none
 | k + 1, x4, x5, x8, x9, x10, x57, x58, x59 => if x59 < x58 then (if 0 ≤ x59 then (if x59 < (x57.length : Int) then (if 0 ≤ x9 then (if x9 < (x8.length : Int) then ((spec_twMake.f (rdOf ByteArray.empty x8 x9) (rd x57 x59)).bind fun t297 => ((spec_riNumber.f k t297).bind fun t298 => (if 0 ≤ t298 then (if t298 < (x4.length : Int) then (if (rd x4 t298) < 0 then (if 0 ≤ x10 then (if x10 < (x4.length : Int) then ((some (x4.set (t298 : Int).toNat (wrap64 ((rd x4 x10) + 1)) : List Int)).bind fun y301 => (if x8.length < 8796093022208 then ((some (x8 ++ [t297] : List ByteArray)).bind fun y302 => (if (rd y301 t298) = (wrap64 ((rd y301 x10) + 1)) then (if t298 < (x5.length : Int) then (if x10 < (x5.length : Int) then (spec_twFar.l2 k y301 (x5.set (t298 : Int).toNat (wrap64 ((rd x5 t298) + (rd x5 x10)))) y302 x9 x10 x57 x58 (wrap64 (x59 + 1))) else (none)) else (none)) else (spec_twFar.l2 k y301 x5 y302 x9 x10 x57 x58 (wrap64 (x59 + 1))))) else (none))) else (none)) else (none)) else (if 0 ≤ x10 then (if x10 < (x4.length : Int) then (if (rd x4 t298) = (wrap64 ((rd x4 x10) + 1)) then (if t298 < (x5.length : Int) then (if x10 < (x5.length : Int) then (spec_twFar.l2 k x4 (x5.set (t298 : Int).toNat (wrap64 ((rd x5 t298) + (rd x5 x10)))) x8 x9 x10 x57 x58 (wrap64 (x59 + 1))) else (none)) else (none)) else (spec_twFar.l2 k x4 x5 x8 x9 x10 x57 x58 (wrap64 (x59 + 1)))) else (none)) else (none))) else (none)) else (none)))) else (none)) else (none)) else (none)) else (none)) else (spec_twFar.l1 k x4 x5 x8 (wrap64 (x9 + 1)))
end
def spec_twFar.f (k : Nat) (a0 : ByteArray) : Option (List Int × List Int) := if 0 ≤ (shl .i64 1 (a0.size : Int)) then (if (shl .i64 1 (a0.size : Int) : Int).toNat ≤ 35184372088832 then ((some (List.replicate (shl .i64 1 (a0.size : Int) : Int).toNat 0 : List Int)).bind fun y276 => (spec_twFar.l0 k a0 y276 (List.replicate (shl .i64 1 (a0.size : Int) : Int).toNat 0) (y276.length : Int) 0)) else (none)) else (none)
theorem spec_twFar.mono_l : ∀ k, (∀ y0 y1 y2 y3 y4, LeO (spec_twFar.l0 k y0 y1 y2 y3 y4) (spec_twFar.l0 (k + 1) y0 y1 y2 y3 y4)) ∧ (∀ y0 y1 y2 y3, LeO (spec_twFar.l1 k y0 y1 y2 y3) (spec_twFar.l1 (k + 1) y0 y1 y2 y3)) ∧ (∀ y0 y1 y2 y3 y4 y5 y6 y7, LeO (spec_twFar.l2 k y0 y1 y2 y3 y4 y5 y6 y7) (spec_twFar.l2 (k + 1) y0 y1 y2 y3 y4 y5 y6 y7))
 | 0 => ⟨fun _ _ _ _ _ r h => by simp [spec_twFar.l0] at h, fun _ _ _ _ r h => by simp [spec_twFar.l1] at h, fun _ _ _ _ _ _ _ _ r h => by simp [spec_twFar.l2] at h⟩
 | k + 1 => by
  obtain ⟨ih0, ih1, ih2⟩ := spec_twFar.mono_l k
  refine ⟨?_, ?_, ?_⟩
  ·intro y0 y1 y2 y3 y4
   unfold spec_twFar.l0
   repeat' first
   | (with_reducible exact ih0 _ _ _ _ _)
   | (with_reducible exact ih1 _ _ _ _)
   | (with_reducible exact ih2 _ _ _ _ _ _ _ _)
   | (with_reducible exact spec_riNumber.mono _ _)
   | (with_reducible exact spec_twMoves.mono _ _)
   | (with_reducible exact LeO.refl _)
   | (with_reducible exact LeO.none _)
   | (with_reducible refine LeO.ite ?_ ?_)
   | (with_reducible refine LeO.bind ?_ (fun _ => ?_))
   | exact ih0 _ _ _ _ _
   | exact ih1 _ _ _ _
   | exact ih2 _ _ _ _ _ _ _ _
   | exact spec_riNumber.mono _ _
   | exact spec_twMoves.mono _ _
   | exact LeO.none _
   | refine LeO.ite ?_ ?_
   | refine LeO.bind ?_ (fun _ => ?_)
  ·intro y0 y1 y2 y3
   unfold spec_twFar.l1
   repeat' first
   | (with_reducible exact ih0 _ _ _ _ _)
   | (with_reducible exact ih1 _ _ _ _)
   | (with_reducible exact ih2 _ _ _ _ _ _ _ _)
   | (with_reducible exact spec_riNumber.mono _ _)
   | (with_reducible exact spec_twMoves.mono _ _)
   | (with_reducible exact LeO.refl _)
   | (with_reducible exact LeO.none _)
   | (with_reducible refine LeO.ite ?_ ?_)
   | (with_reducible refine LeO.bind ?_ (fun _ => ?_))
   | exact ih0 _ _ _ _ _
   | exact ih1 _ _ _ _
   | exact ih2 _ _ _ _ _ _ _ _
   | exact spec_riNumber.mono _ _
   | exact spec_twMoves.mono _ _
   | exact LeO.none _
   | refine LeO.ite ?_ ?_
   | refine LeO.bind ?_ (fun _ => ?_)
  ·intro y0 y1 y2 y3 y4 y5 y6 y7
   unfold spec_twFar.l2
   repeat' first
   | (with_reducible exact ih0 _ _ _ _ _)
   | (with_reducible exact ih1 _ _ _ _)
   | (with_reducible exact ih2 _ _ _ _ _ _ _ _)
   | (with_reducible exact spec_riNumber.mono _ _)
   | (with_reducible exact spec_twMoves.mono _ _)
   | (with_reducible exact LeO.refl _)
   | (with_reducible exact LeO.none _)
   | (with_reducible refine LeO.ite ?_ ?_)
   | (with_reducible refine LeO.bind ?_ (fun _ => ?_))
   | exact ih0 _ _ _ _ _
   | exact ih1 _ _ _ _
   | exact ih2 _ _ _ _ _ _ _ _
   | exact spec_riNumber.mono _ _
   | exact spec_twMoves.mono _ _
   | exact LeO.none _
   | refine LeO.ite ?_ ?_
   | refine LeO.bind ?_ (fun _ => ?_)
theorem spec_twFar.mono : ∀ a0 k, LeO (spec_twFar.f k a0) (spec_twFar.f (k + 1) a0) := by
 intro a0 k
 obtain ⟨ih0, ih1, ih2⟩ := spec_twFar.mono_l k
 unfold spec_twFar.f
 repeat' first
   | (with_reducible exact ih0 _ _ _ _ _)
   | (with_reducible exact ih1 _ _ _ _)
   | (with_reducible exact ih2 _ _ _ _ _ _ _ _)
   | (with_reducible exact spec_riNumber.mono _ _)
   | (with_reducible exact spec_twMoves.mono _ _)
   | (with_reducible exact LeO.refl _)
   | (with_reducible exact LeO.none _)
   | (with_reducible refine LeO.ite ?_ ?_)
   | (with_reducible refine LeO.bind ?_ (fun _ => ?_))
   | exact ih0 _ _ _ _ _
   | exact ih1 _ _ _ _
   | exact ih2 _ _ _ _ _ _ _ _
   | exact spec_riNumber.mono _ _
   | exact spec_twMoves.mono _ _
   | exact LeO.none _
   | refine LeO.ite ?_ ?_
   | refine LeO.bind ?_ (fun _ => ?_)
def spec_twFar.T1 : Bool × List (List Nat × List Nat) := (true, [([], []), ([0], [0]), ([1], [1]), ([2, 2], [2]), ([], []), ([4], [4]), ([5], [5]), ([6, 6], [6]), ([3, 0, 1, 2, 3], [3]), ([7, 8, 0, 1, 2, 3, 4, 5, 6, 7, 8], [7])])
def spec_twFar.B1 : List Nat := [0, 1, 3, 7, 0, 16, 48, 112, 15, 511]
theorem spec_twFar.tab1 : rtab .any (opsOf Tryz.f32 1) = spec_twFar.T1 := by kernel_rfl
theorem spec_twFar.bits1 : waitsOk spec_twFar.T1.2 spec_twFar.B1 = true := by kernel_rfl
def spec_twFar.T23 : Bool × List (List Nat × List Nat) := (true, [([], []), ([], []), ([0, 1], [0, 1]), ([2], [2]), ([], []), ([], []), ([4, 5], [4, 5]), ([6], [6]), ([7], [7]), ([3, 8], [3, 8])])
def spec_twFar.B23 : List Nat := [0, 0, 3, 7, 0, 0, 48, 112, 240, 511]
theorem spec_twFar.tab23 : rtab .any (opsOf Tryz.f32 23) = spec_twFar.T23 := by kernel_rfl
theorem spec_twFar.bits23 : waitsOk spec_twFar.T23.2 spec_twFar.B23 = true := by kernel_rfl
def spec_twFar.T24 : Bool × List (List Nat × List Nat) := (true, [([], []), ([], []), ([0, 1], [0, 1]), ([2], [2]), ([], []), ([], []), ([4, 5], [4, 5]), ([6], [6]), ([3, 7], [3, 7]), ([0, 1, 0, 1, 2, 3, 4, 5, 6, 7, 8], [0, 1]), ([9, 8, 0, 1, 2, 3, 4, 5, 6, 7, 8], [8, 9])])
def spec_twFar.B24 : List Nat := [0, 0, 3, 7, 0, 0, 48, 112, 255, 511, 1023]
theorem spec_twFar.tab24 : rtab .any (opsOf Tryz.f32 24) = spec_twFar.T24 := by kernel_rfl
theorem spec_twFar.bits24 : waitsOk spec_twFar.T24.2 spec_twFar.B24 = true := by kernel_rfl
set_option maxHeartbeats 8000000 in
set_option maxRecDepth 100000 in
theorem spec_twFar.calls (k : Nat) (a0 : ByteArray) (r1 : List Int) (r2 : List Int) (w : World) (h : spec_twFar.f k a0 = some (r1, r2)) :
  Calls Tryz.prog 32 #[.string a0] w fun e w' => ∃ v0_ v1_ : Value, e = .returned (.tuple #[v0_, v1_]) ∧ Kd.R (Kd.int .i64) 3 w' w.heap.size (fun k_ => some k_ ≠ (v1_ : Value).ownBlock) v0_ r1 ∧ Kd.R (Kd.int .i64) 3 w' w.heap.size (fun k_ => some k_ ≠ (v0_ : Value).ownBlock) v1_ r2 ∧ Below w.heap.size w w' := by
 have HB := aM (Below.refl w.heap.size w)
 have H : (if 0 ≤ (shl .i64 1 (a0.size : Int)) then (if (shl .i64 1 (a0.size : Int) : Int).toNat ≤ 35184372088832 then ((some (List.replicate (shl .i64 1 (a0.size : Int) : Int).toNat 0 : List Int)).bind fun y276 => (spec_twFar.l0 k a0 y276 (List.replicate (shl .i64 1 (a0.size : Int) : Int).toNat 0) (y276.length : Int) 0)) else (none)) else (none)) = some (r1, r2) := h
 clear h
 obtain ⟨ji2, hji2⟩ : ∃ j_ : Int, (shl .i64 1 (a0.size : Int)) = j_ := ⟨_, rfl⟩
 replace H : (if 0 ≤ (ji2) then (if (ji2 : Int).toNat ≤ 35184372088832 then ((some (List.replicate (ji2 : Int).toNat 0 : List Int)).bind fun y276 => (spec_twFar.l0 k a0 y276 (List.replicate (ji2 : Int).toNat 0) (y276.length : Int) 0)) else (none)) else (none)) = some (r1, r2) := by first | (rw [hji2] at H; exact H) | (simp only [hji2] at H ⊢; exact H)
 have hji2_ : (IntKind.i64.wrap (1 * 2 ^ min (a0.size : Int).toNat 64)) = ji2 := hji2
 have hji2z : (a0.size : Int) ≤ 64 → (IntKind.i64.wrap (1 * 2 ^ (a0.size : Int).toNat)) = ji2 := shl_small hji2
 have hji2p : (IntKind.i64.wrap (1 * 2 ^ min a0.size 64)) = ji2 := hji2_
 have hji2q : (a0.size : Int) ≤ 64 → (IntKind.i64.wrap (1 * 2 ^ a0.size)) = ji2 := hji2z
 have hji2r : (IntKind.i64.wrap (2 ^ min a0.size 64)) = ji2 := by have h_ := hji2p; rw [Int.one_mul] at h_; exact h_
 have hji2s : (a0.size : Int) ≤ 64 → (IntKind.i64.wrap (2 ^ a0.size)) = ji2 := fun hle_ => by have h_ := hji2q hle_; rw [Int.one_mul] at h_; exact h_
 have hji2u : (IntKind.i64.wrap (2 ^ min (a0.size : Int).toNat 64)) = ji2 := by have h_ := hji2_; rw [Int.one_mul] at h_; exact h_
 have hji2v : (a0.size : Int) ≤ 64 → (IntKind.i64.wrap (2 ^ (a0.size : Int).toNat)) = ji2 := fun hle_ => by have h_ := hji2z hle_; rw [Int.one_mul] at h_; exact h_
 have hji2y : (wrap64 (1 * 2 ^ min (a0.size : Int).toNat 64)) = ji2 := (i64_w _).symm.trans hji2_
 have hji2x : (a0.size : Int) ≤ 64 → (wrap64 (1 * 2 ^ (a0.size : Int).toNat)) = ji2 := fun h_ => (i64_w _).symm.trans (hji2z h_)
 by_cases c3 : 0 ≤ (ji2)
 ·rw [if_pos c3] at H
  have c3b0 := eq_true c3
  have c3b1 : decide (0 ≤ (ji2)) = true := decide_eq_true c3
  clear c3
  by_cases c4 : (ji2 : Int).toNat ≤ 35184372088832
  ·rw [if_pos c4] at H
   have c4b0 := eq_true c4
   have c4b1 : decide ((ji2 : Int).toNat ≤ 35184372088832) = true := decide_eq_true c4
   clear c4
   obtain ⟨y276, hy276⟩ : ∃ y_ : List Int, y_ = (List.replicate (ji2 : Int).toNat 0) := ⟨_, rfl⟩
   replace H : (spec_twFar.l0 k a0 y276 (List.replicate (ji2 : Int).toNat 0) (y276.length : Int) 0) = some (r1, r2) := by first | (rw [hy276]; with_reducible exact H) | (have H2_ := (Option.bind_some _ _).symm.trans H; rw [hy276]; with_reducible exact H2_) | (have H2_ := (Option.bind_some _ _).symm.trans H; with_reducible exact H2_) | with_reducible exact H | (rw [hy276]; exact H) | exact H
   have Ny276 := aM hy276
   clear hy276
   obtain ⟨y279, hy279⟩ : ∃ y_ : List Int, y_ = (List.replicate (ji2 : Int).toNat 0) := ⟨_, rfl⟩
   replace H : (spec_twFar.l0 k a0 y276 y279 (y276.length : Int) 0) = some (r1, r2) := by first | (rw [hy279]; with_reducible exact H) | (have H2_ := (Option.bind_some _ _).symm.trans H; rw [hy279]; with_reducible exact H2_) | (have H2_ := (Option.bind_some _ _).symm.trans H; with_reducible exact H2_) | with_reducible exact H | (rw [hy279]; exact H) | exact H
   have Ny279 := aM hy279
   clear hy279
   have H' := aM H
   clear H
   go_enter Tryz.func32, Tryz.ntmps32
   try go_wp2
   have n0_ := aM (below_drew1 HB.out)
   clear HB
   have HB := n0_
   clear n0_
   refine start_ (n := 10) (S := fun w' => True) (ds := []) #[F,F,F,F,F,F,F,F,F,F] (by kernel_rfl) rfl rfl trivial (fun hHeld => ?_); refine with_tabW spec_twFar.tab1 spec_twFar.bits1 (fun HT_ HW_ => ?_)
   generalize w.drew = w5 at HB hHeld ⊢
   refine pure_ (i := 0) (N := some 15) (v := ?_) (a' := ?_) #[T,F,F,F,F,F,F,F,F,F] rfl rfl (any_of HT_.out (by kernel_rfl)) (fun _ _ _ h => h) (Or.inl ⟨by rfl, ?_⟩) ?_ ?_; rotate_left; (next => intro w'; go_simp; with_reducible rfl); rotate_left; next => simp only [Act.put, sA, sB, sC, i64_w, i32_w]; rfl
   refine pure_ (i := 1) (N := some 16) (v := ?_) (a' := ?_) #[T,T,F,F,F,F,F,F,F,F] rfl rfl (any_of HT_.out (by kernel_rfl)) (fun _ _ _ h => h) (Or.inl ⟨by rfl, ?_⟩) ?_ ?_; rotate_left; (next => intro w'; go_simp; with_reducible rfl); rotate_left; next => simp only [Act.put, sA, sB, sC, i64_w, i32_w]; rfl
   refine pure_ (i := 2) (N := some 17) (v := ?_) (a' := ?_) #[T,T,T,F,F,F,F,F,F,F] rfl rfl (any_of HT_.out (by kernel_rfl)) (fun _ _ _ h => h) (Or.inl ⟨by rfl, ?_⟩) ?_ ?_; rotate_left; (next => intro w'; go_simp; with_reducible rfl); rotate_left; next => simp only [Act.put, sA, sB, sC, i64_w, i32_w]; rfl
   refine pure_ (i := 4) (N := some 19) (v := ?_) (a' := ?_) #[T,T,T,F,T,F,F,F,F,F] rfl rfl (any_of HT_.out (by kernel_rfl)) (fun _ _ _ h => h) (Or.inl ⟨by rfl, ?_⟩) ?_ ?_; rotate_left; (next => intro w'; go_simp; with_reducible rfl); rotate_left; next => simp only [Act.put, sA, sB, sC, i64_w, i32_w]; rfl
   refine pure_ (i := 5) (N := some 20) (v := ?_) (a' := ?_) #[T,T,T,F,T,T,F,F,F,F] rfl rfl (any_of HT_.out (by kernel_rfl)) (fun _ _ _ h => h) (Or.inl ⟨by rfl, ?_⟩) ?_ ?_; rotate_left; (next => intro w'; go_simp; with_reducible rfl); rotate_left; next => simp only [Act.put, sA, sB, sC, i64_w, i32_w]; rfl
   refine pure_ (i := 6) (N := some 21) (v := ?_) (a' := ?_) #[T,T,T,F,T,T,T,F,F,F] rfl rfl (any_of HT_.out (by kernel_rfl)) (fun _ _ _ h => h) (Or.inl ⟨by rfl, ?_⟩) ?_ ?_; rotate_left; (next => intro w'; go_simp; with_reducible rfl); rotate_left; next => simp only [Act.put, sA, sB, sC, i64_w, i32_w]; rfl
   refine join_ (σ := Value × Value) 1 #[T,T,T,T,T,T,T,T,T,F] (fun s_ => [(18, s_.1), (22, s_.2), (4, s_.1)]) (fun s_ w' => (Kd.R (Kd.int .i64) 3 w' w.heap.size (fun k_ => some k_ ≠ (s_.2 : Value).ownBlock) s_.1 y276) ∧ (Kd.R (Kd.int .i64) 3 w' w.heap.size (fun k_ => some k_ ≠ (s_.1 : Value).ownBlock) s_.2 y279) ∧ (Below w.heap.size w w')) ?_ ?_
   rotate_left
   ·intro hCont
    refine two_ (i := 3) (j := 7) (Ni := some 18) (Nj := some 22) #[T,T,T,T,T,T,T,F,F,F] #[T,T,T,F,T,T,T,T,F,F] rfl rfl rfl rfl (two_of HT_.out (by kernel_rfl)) (by decide) (by decide) (fun K hK => ?_) (fun K hK => ?_)
    ·skip
     refine Kd.R_make_step (Kd.int .i64) _ 3 (by rfl) (N := 18) rfl 48 _ _ rfl ji2 rfl rfl Tryz.underlying48 (.int .i64 0) 8 info3 rfl (by decide) (by omega) 0 (ok := fun _ => True) (okp := fun _ => True) rfl (fun _ hk => hk) trivial (of_decide_eq_true (by first | (with_reducible assumption) | assumption)) (Nat.le_trans (Nat.mul_le_mul_right _ (of_decide_eq_true (by first | (with_reducible assumption) | assumption) : ji2.toNat ≤ 35184372088832)) (by omega)) (Below.refl _ _) (Nat.le_refl _) ?_
     intro v277 w6 ho7 hb hg_ hnew_
     clear hg_ hnew_
     (first | rw [← Ny276.out] at ho7 | (simp only [Int.reduceToNat] at ho7; rw [← Ny276.out] at ho7))
     have n0_ := aM (Kd.R_lower ho7 (below_size (by repeat (first | (with_reducible first | exact HB.out | apply bA | apply bN | apply bD) | exact HB.out))))
     have n1_ := aM (below_step (by repeat (first | (with_reducible first | exact HB.out | apply bA | apply bN | apply bD) | exact HB.out)) hb)
     clear HB
     have HO278 := n0_
     have HB := n1_
     clear n0_ n1_
     clear hb ho7
     refine hK.out _ _ trivial (fun hHeld => ?_)
     clear hK K
     refine norm_ (a' := ?_) ?_ ?_
     rotate_left
     ·show Act.put _ (some 18) _ = _
      simp only [Act.put, sA, sB, sC, i64_w, i32_w]
      rfl
     refine pure_ (i := 8) (N := some 4) (v := ?_) (a' := ?_) #[T,T,T,T,T,T,T,F,T,F] rfl rfl (any_of HT_.out (by kernel_rfl)) (fun _ _ _ h => h) (Or.inl ⟨by rfl, ?_⟩) ?_ ?_; rotate_left; (next => intro w'; go_simp; with_reducible rfl); rotate_left; next => simp only [Act.put, sA, sB, sC, i64_w, i32_w]; rfl
     refine one_ (i := 7) (N := some 22) #[T,T,T,T,T,T,T,T,T,F] rfl rfl (one_of HT_.out (by kernel_rfl)) (by decide) (fun K hK => ?_)
     refine Kd.R_make_step (Kd.int .i64) _ 3 (by rfl) (N := 22) rfl 48 _ _ rfl ji2 rfl rfl Tryz.underlying48 (.int .i64 0) 8 info3 rfl (by decide) (by omega) 0 (ok := fun _ => True) (okp := fun _ => True) rfl (fun _ hk => hk) trivial (of_decide_eq_true (by first | (with_reducible assumption) | assumption)) (Nat.le_trans (Nat.mul_le_mul_right _ (of_decide_eq_true (by first | (with_reducible assumption) | assumption) : ji2.toNat ≤ 35184372088832)) (by omega)) (Below.refl _ _) (Nat.le_refl _) ?_
     intro v280 w8 ho9 hb hg_ hnew_
     clear hg_ hnew_
     (first | rw [← Ny279.out] at ho9 | (simp only [Int.reduceToNat] at ho9; rw [← Ny279.out] at ho9))
     have n0_ := aM (Kd.R_elder' (by (with_reducible repeat (first | apply rA | apply rN | apply rD)); exact HO278.out) (Kd.R_base ho9) hb)
     have n1_ := aM (Kd.R_lower (Kd.R_new' ho9 (Kd.R_lt (by (with_reducible repeat (first | apply rA | apply rN | apply rD)); exact HO278.out))) (below_size (by repeat (first | (with_reducible first | exact HB.out | apply bA | apply bN | apply bD) | exact HB.out))))
     have n2_ := aM (below_step (by repeat (first | (with_reducible first | exact HB.out | apply bA | apply bN | apply bD) | exact HB.out)) hb)
     clear HO278 HB
     have HO278 := n0_
     have HO281 := n1_
     have HB := n2_
     clear n0_ n1_ n2_
     clear hb ho9
     refine hK.out _ _ trivial (fun hHeld => ?_)
     clear hK K
     refine norm_ (a' := ?_) ?_ ?_
     rotate_left
     ·show Act.put _ (some 22) _ = _
      simp only [Act.put, sA, sB, sC, i64_w, i32_w]
      rfl
     exact norm_ (by simp only [putAll, Act.put, sA, sB, sC]) (hCont (v277, v280) _ ⟨(by (with_reducible repeat (first | apply rA | apply rN | apply rD)); exact Kd.R_mono HO278.out (fun _ hk => hk.2)), (by (with_reducible repeat (first | apply rA | apply rN | apply rD)); exact Kd.R_mono HO281.out (fun _ hk => hk.2)), (by repeat (first | (with_reducible first | exact HB.out | apply bA | apply bN | apply bD) | exact HB.out))⟩)
    ·skip
     refine Kd.R_make_step (Kd.int .i64) _ 3 (by rfl) (N := 22) rfl 48 _ _ rfl ji2 rfl rfl Tryz.underlying48 (.int .i64 0) 8 info3 rfl (by decide) (by omega) 0 (ok := fun _ => True) (okp := fun _ => True) rfl (fun _ hk => hk) trivial (of_decide_eq_true (by first | (with_reducible assumption) | assumption)) (Nat.le_trans (Nat.mul_le_mul_right _ (of_decide_eq_true (by first | (with_reducible assumption) | assumption) : ji2.toNat ≤ 35184372088832)) (by omega)) (Below.refl _ _) (Nat.le_refl _) ?_
     intro v280 w6 ho7 hb hg_ hnew_
     clear hg_ hnew_
     (first | rw [← Ny279.out] at ho7 | (simp only [Int.reduceToNat] at ho7; rw [← Ny279.out] at ho7))
     have n0_ := aM (Kd.R_lower ho7 (below_size (by repeat (first | (with_reducible first | exact HB.out | apply bA | apply bN | apply bD) | exact HB.out))))
     have n1_ := aM (below_step (by repeat (first | (with_reducible first | exact HB.out | apply bA | apply bN | apply bD) | exact HB.out)) hb)
     clear HB
     have HO281 := n0_
     have HB := n1_
     clear n0_ n1_
     clear hb ho7
     refine hK.out _ _ trivial (fun hHeld => ?_)
     clear hK K
     refine norm_ (a' := ?_) ?_ ?_
     rotate_left
     ·show Act.put _ (some 22) _ = _
      simp only [Act.put, sA, sB, sC, i64_w, i32_w]
      rfl
     refine one_ (i := 3) (N := some 18) #[T,T,T,T,T,T,T,T,F,F] rfl rfl (one_of HT_.out (by kernel_rfl)) (by decide) (fun K hK => ?_)
     refine Kd.R_make_step (Kd.int .i64) _ 3 (by rfl) (N := 18) rfl 48 _ _ rfl ji2 rfl rfl Tryz.underlying48 (.int .i64 0) 8 info3 rfl (by decide) (by omega) 0 (ok := fun _ => True) (okp := fun _ => True) rfl (fun _ hk => hk) trivial (of_decide_eq_true (by first | (with_reducible assumption) | assumption)) (Nat.le_trans (Nat.mul_le_mul_right _ (of_decide_eq_true (by first | (with_reducible assumption) | assumption) : ji2.toNat ≤ 35184372088832)) (by omega)) (Below.refl _ _) (Nat.le_refl _) ?_
     intro v277 w8 ho9 hb hg_ hnew_
     clear hg_ hnew_
     (first | rw [← Ny276.out] at ho9 | (simp only [Int.reduceToNat] at ho9; rw [← Ny276.out] at ho9))
     have n0_ := aM (Kd.R_elder' (by (with_reducible repeat (first | apply rA | apply rN | apply rD)); exact HO281.out) (Kd.R_base ho9) hb)
     have n1_ := aM (Kd.R_lower (Kd.R_new' ho9 (Kd.R_lt (by (with_reducible repeat (first | apply rA | apply rN | apply rD)); exact HO281.out))) (below_size (by repeat (first | (with_reducible first | exact HB.out | apply bA | apply bN | apply bD) | exact HB.out))))
     have n2_ := aM (below_step (by repeat (first | (with_reducible first | exact HB.out | apply bA | apply bN | apply bD) | exact HB.out)) hb)
     clear HO281 HB
     have HO281 := n0_
     have HO278 := n1_
     have HB := n2_
     clear n0_ n1_ n2_
     clear hb ho9
     refine hK.out _ _ trivial (fun hHeld => ?_)
     clear hK K
     refine norm_ (a' := ?_) ?_ ?_
     rotate_left
     ·show Act.put _ (some 18) _ = _
      simp only [Act.put, sA, sB, sC, i64_w, i32_w]
      rfl
     refine pure_ (i := 8) (N := some 4) (v := ?_) (a' := ?_) #[T,T,T,T,T,T,T,T,T,F] rfl rfl (any_of HT_.out (by kernel_rfl)) (fun _ _ _ h => h) (Or.inl ⟨by rfl, ?_⟩) ?_ ?_; rotate_left; (next => intro w'; go_simp; with_reducible rfl); rotate_left; next => simp only [Act.put, sA, sB, sC, i64_w, i32_w]; rfl
     exact norm_ (by simp only [putAll, Act.put, sA, sB, sC]) (hCont (v277, v280) _ ⟨(by (with_reducible repeat (first | apply rA | apply rN | apply rD)); exact Kd.R_mono HO278.out (fun _ hk => hk.2)), (by (with_reducible repeat (first | apply rA | apply rN | apply rD)); exact Kd.R_mono HO281.out (fun _ hk => hk.2)), (by repeat (first | (with_reducible first | exact HB.out | apply bA | apply bN | apply bD) | exact HB.out))⟩)
   rintro ⟨v277, v280⟩ w10 ⟨h0_, h1_, h2_⟩
   have n0_ : Aside0 (Kd.R (Kd.int .i64) 3 w10 w.heap.size (fun k_ => some k_ ≠ (v280 : Value).ownBlock) v277 y276) := ⟨h0_⟩
   have n1_ : Aside0 (Kd.R (Kd.int .i64) 3 w10 w.heap.size (fun k_ => some k_ ≠ (v277 : Value).ownBlock) v280 y279) := ⟨h1_⟩
   have n2_ : Aside0 (Below w.heap.size w w10) := ⟨h2_⟩
   clear HB
   clear h0_ h1_ h2_
   have HO278 := n0_
   have HO281 := n1_
   have HB := n2_
   clear n0_ n1_ n2_
   have hHeld := trivial
   refine norm_ (a' := ?_) ?_ ?_
   rotate_left
   ·simp only [putAll, Act.put, sA, sB, sC]
    rfl
   refine pure_ (i := 9) (N := some 5) (v := ?_) (a' := ?_) #[T,T,T,T,T,T,T,T,T,T] rfl rfl (any_of HT_.out (by kernel_rfl)) (fun _ _ _ h => h) (Or.inl ⟨by rfl, ?_⟩) ?_ ?_; rotate_left; (next => intro w'; go_simp; with_reducible rfl); rotate_left; next => simp only [Act.put, sA, sB, sC, i64_w, i32_w]; rfl
   refine done_ (done_of HT_.out (by kernel_rfl)) ?_
   obtain ⟨Ao11, co11, eo11⟩ := Kd.R_slice HO278.out
   subst eo11
   try go_wp2
   go_loopg [25] k (fun kq v25 w' => ∃ (x4_1 : List Int) (x25_1 : Int), v25 = .int .i64 x25_1 ∧ Aside0 (spec_twFar.l0 kq a0 x4_1 y279 (y276.length : Int) x25_1 = some (r1, r2)) ∧ Aside0 (kq ≤ k) ∧ Aside0 (Kd.R (Kd.int .i64) 3 w' w.heap.size (fun k_ => some k_ ≠ (v280 : Value).ownBlock) (.slice Ao11 y276.length co11) x4_1) ∧ Aside0 (Kd.R (Kd.int .i64) 3 w' w.heap.size (fun k_ => some k_ ≠ ((.slice Ao11 y276.length co11) : Value).ownBlock) v280 y279) ∧ Aside0 (Below w.heap.size w w'))
   case atStart => exact ⟨(y276), (0), (by first | rfl | (simp; done) | (simp [*]; done)), H', ⟨Nat.le_refl _⟩, ⟨by (with_reducible repeat (first | apply rA | apply rN | apply rD)); exact HO278.out⟩, ⟨by (with_reducible repeat (first | apply rA | apply rN | apply rD)); exact HO281.out⟩, ⟨by repeat (first | (with_reducible first | exact HB.out | apply bA | apply bN | apply bD) | exact HB.out)⟩⟩
   case round =>
    clear H'
    try clear p2
    try clear c3
    try clear c3b0
    try clear c3b1
    try clear c4
    try clear c4b0
    try clear c4b1
    try clear p6
    obtain ⟨x4_1, x25_1, rfl, HA, HK1, HO_4, HO_5, HB⟩ := hrel
    have hl4_1 := (Kd.R_reads' HO_4.out).1
    rw [hl4_1] at HO_4
    (try simp only [hl4_1])
    (try simp only [hl4_1] at HO_5)
    cases gk with
    | zero => exact absurd HA.out (by simp [spec_twFar.l0])
    | succ k1 =>
     have H := HA.out
     clear HA
     simp only [spec_twFar.l0] at H
     by_cases c12 : x25_1 < (y276.length : Int)
     ·rw [if_pos c12] at H
      have c12b0 : decide (x25_1 < (y276.length : Int)) = true := decide_eq_true c12
      (try (have c12m0 := c12b0; simp only [hl4_1] at c12m0))
      clear c12
      by_cases c13 : 0 ≤ x25_1
      ·rw [if_pos c13] at H
       have c13b0 : decide (0 ≤ x25_1) = true := decide_eq_true c13
       clear c13
       by_cases c14 : x25_1 < (x4_1.length : Int)
       ·rw [if_pos c14] at H
        have c14b0 : decide (x25_1 < (x4_1.length : Int)) = true := decide_eq_true c14
        (try (have c14m0 := c14b0; simp only [hl4_1] at c14m0))
        clear c14
        obtain ⟨y282, hy282⟩ : ∃ y_ : List Int, y_ = (x4_1.set (x25_1 : Int).toNat (-1)) := ⟨_, rfl⟩
        replace H : (spec_twFar.l0 k1 a0 y282 y279 (y276.length : Int) (wrap64 (x25_1 + 1))) = some (r1, r2) := by first | (rw [hy282]; with_reducible exact H) | (have H2_ := (Option.bind_some _ _).symm.trans H; rw [hy282]; with_reducible exact H2_) | (have H2_ := (Option.bind_some _ _).symm.trans H; with_reducible exact H2_) | with_reducible exact H | (rw [hy282]; exact H) | exact H
        have Ny282 := aM hy282
        clear hy282
        have H' := aM H
        clear H
        have p15 : 0 ≤ (x25_1 : Int) := of_decide_eq_true (by first | (with_reducible assumption) | assumption)
        have q15 : (x25_1 : Int) < ((x4_1.length : Int) : Int) := of_decide_eq_true (by first | (with_reducible assumption) | assumption)
        obtain ⟨go15, co15, eo15, gb15, gl15, cl15, HG15⟩ := Kd.R_form HO_4.out (by omega)
        (first | cases eo15 | (injection eo15 with ea_ en_ ec_; (first | subst ea_ | (injection ea_ with ea_; subst ea_)); subst ec_; clear en_))
        have GB15 := aM gb15
        have GG15 := aM HG15
        clear gb15 gl15 HG15
        obtain ⟨hx15_0, hf15_0⟩ := Kd.R_celln 0 HO_4.out (x25_1 : Int) p15 q15
        replace p15 := eq_true p15
        replace q15 := eq_true q15
        have HP16 := Kd.R_putg HO_4.out (x25_1 : Int) (-1)
        go_wp2_with (first | ((with_reducible refine gate_store (t := 3) (p := 30) rfl ?_); refine store_event (t := 3) (p := 30) (v := ?vo_w17) (w1 := (wr.setCell ⟨go15, (x25_1 : Int).toNat, none⟩ (.int .i64 (-1)))) ?hg ?ho ?hn ?hr ?_; (case ho => rfl); (case hg => rfl); (case hn => rfl); (case hr => first | (go_simp; done) | (go_simp; rfl)); intro w17 hw; have hg : wr.grownBy w17 (some go15) := (by rw [hw]; exact HP16.2); have hp_ : Kd.R (Kd.int .i64) 3 w17 w.heap.size (fun k_ => some k_ ≠ (v280 : Value).ownBlock) (.slice (some ⟨go15, 0, none⟩) x4_1.length co11) y282 := (by rw [hw, Ny282.out]; exact HP16.1); clear HP16; have n0_ := aM (hp_); have n1_ := aM (Kd.R_after (v := (.slice (some ⟨go15, 0, none⟩) x4_1.length co11)) (v1 := (.slice (some ⟨go15, 0, none⟩) x4_1.length co11)) (ok := (fun _ => True)) (by (with_reducible repeat (first | apply rA | apply rN | apply rD)); exact Kd.R_mono HO_5.out (fun _ hk => ⟨trivial, hk⟩)) hg (.inl rfl)); have n2_ := aM ((by rw [hw]; exact below_set (HB.out) GB15.out : Below w.heap.size w w17)); clear HO_4; clear HO_5; clear HB; have HO_4 := n0_; have HO_5 := n1_; have HB := n2_; clear n0_ n1_ n2_; clear hg hw hp_))
        (try simp only [← hl4_1])
        go_roundg k1
        case measure => have := HK1.out; omega
        case rel => exact ⟨(y282), (wrap64 (x25_1 + 1)), (by first | rfl | (simp; done) | (simp [*]; done)), H', ⟨by have := HK1.out; omega⟩, ⟨by (try simp only [hl4_1]); (with_reducible repeat (first | apply rA | apply rN | apply rD)); exact HO_4.out⟩, ⟨by (try simp only [hl4_1]); (with_reducible repeat (first | apply rA | apply rN | apply rD)); exact Kd.R_mono HO_5.out (fun _ hk => hk.2)⟩, ⟨by repeat (first | (with_reducible first | exact HB.out | apply bA | apply bN | apply bD) | exact HB.out)⟩⟩
       ·rw [if_neg c14] at H
        exact absurd H (by simp)
      ·rw [if_neg c13] at H
       exact absurd H (by simp)
     ·rw [if_neg c12] at H
      have c12b0 : decide (x25_1 < (y276.length : Int)) = false := decide_eq_false c12
      (try (have c12m0 := c12b0; simp only [hl4_1] at c12m0))
      clear c12
      replace H := Option.bind_eq_some_iff.mp H
      obtain ⟨t283, A180, H⟩ := H
      replace H : (if 0 ≤ t283 then (if t283 < (x4_1.length : Int) then (if t283 < (y279.length : Int) then (spec_twFar.l1 k1 (x4_1.set (t283 : Int).toNat 0) (y279.set (t283 : Int).toNat 1) (([a0] : List ByteArray)) 0) else (none)) else (none)) else (none)) = some (r1, r2) := H
      have A18 := aM A180
      clear A180
      by_cases c19 : 0 ≤ t283
      ·rw [if_pos c19] at H
       have c19b0 : decide (0 ≤ t283) = true := decide_eq_true c19
       clear c19
       by_cases c20 : t283 < (x4_1.length : Int)
       ·rw [if_pos c20] at H
        have c20b0 : decide (t283 < (x4_1.length : Int)) = true := decide_eq_true c20
        (try (have c20m0 := c20b0; simp only [hl4_1] at c20m0))
        clear c20
        obtain ⟨y284, hy284⟩ : ∃ y_ : List Int, y_ = (x4_1.set (t283 : Int).toNat 0) := ⟨_, rfl⟩
        replace H : (if t283 < (y279.length : Int) then (spec_twFar.l1 k1 y284 (y279.set (t283 : Int).toNat 1) (([a0] : List ByteArray)) 0) else (none)) = some (r1, r2) := by first | (rw [hy284]; with_reducible exact H) | (have H2_ := (Option.bind_some _ _).symm.trans H; rw [hy284]; with_reducible exact H2_) | (have H2_ := (Option.bind_some _ _).symm.trans H; with_reducible exact H2_) | with_reducible exact H | (rw [hy284]; exact H) | exact H
        have Ny284 := aM hy284
        clear hy284
        by_cases c22 : t283 < (y279.length : Int)
        ·rw [if_pos c22] at H
         have c22b0 : decide (t283 < (y279.length : Int)) = true := decide_eq_true c22
         (try (have c22m0 := c22b0; simp only [hl4_1] at c22m0))
         clear c22
         obtain ⟨y285, hy285⟩ : ∃ y_ : List Int, y_ = (y279.set (t283 : Int).toNat 1) := ⟨_, rfl⟩
         replace H : (spec_twFar.l1 k1 y284 y285 (([a0] : List ByteArray)) 0) = some (r1, r2) := by first | (rw [hy285]; with_reducible exact H) | (have H2_ := (Option.bind_some _ _).symm.trans H; rw [hy285]; with_reducible exact H2_) | (have H2_ := (Option.bind_some _ _).symm.trans H; with_reducible exact H2_) | with_reducible exact H | (rw [hy285]; exact H) | exact H
         have Ny285 := aM hy285
         clear hy285
         obtain ⟨y286, hy286⟩ : ∃ y_ : List ByteArray, y_ = (([a0] : List ByteArray)) := ⟨_, rfl⟩
         replace H : (spec_twFar.l1 k1 y284 y285 y286 0) = some (r1, r2) := by first | (rw [hy286]; with_reducible exact H) | (have H2_ := (Option.bind_some _ _).symm.trans H; rw [hy286]; with_reducible exact H2_) | (have H2_ := (Option.bind_some _ _).symm.trans H; with_reducible exact H2_) | with_reducible exact H | (rw [hy286]; exact H) | exact H
         have Ny286 := aM hy286
         clear hy286
         have H' := aM H
         clear H
         go_wp2_with (first | ((with_reducible refine gate_callee (f := 44) rfl ?_); refine goesL_ (some 33) rfl rfl Tryz.func44 (by kernel_rfl) rfl #[.string a0] rfl (by (try simp only [List.map_toArray, List.map_cons, List.map_nil]); first | done | rfl | (simp only [List.length_drop, List.length_take]; rfl)) ?_; (with_reducible refine (spec_riNumber.calls k1 a0 t283 _ A18.out).mono ?_); rintro e w' ⟨rfl, ⟨nd, rfl⟩⟩; refine ⟨_, rfl, ?_⟩; (try (rw [drewN_self wr]; generalize hq_ : World.drewN wr _ = wr; have n0_ : Aside0 (Kd.R (Kd.int .i64) 3 wr w.heap.size (fun k_ => some k_ ≠ (v280 : Value).ownBlock) (.slice Ao11 x4_1.length co11) x4_1) := ⟨by rw [← hq_]; exact (by (with_reducible repeat (first | apply rA | apply rN | apply rD)); exact HO_4.out)⟩; have n1_ : Aside0 (Kd.R (Kd.int .i64) 3 wr w.heap.size (fun k_ => some k_ ≠ (.slice Ao11 x4_1.length co11 : Value).ownBlock) v280 y279) := ⟨by rw [← hq_]; exact (by (with_reducible repeat (first | apply rA | apply rN | apply rD)); exact HO_5.out)⟩; have n2_ : Aside0 (Below w.heap.size w wr) := ⟨by rw [← hq_]; exact (by repeat (first | (with_reducible first | exact HB.out | apply bA | apply bN | apply bD) | exact HB.out))⟩; clear HO_4 HO_5 HB hq_; have HO_4 := n0_; have HO_5 := n1_; have HB := n2_; clear n0_ n1_ n2_)); have p21 : 0 ≤ (t283 : Int) := of_decide_eq_true (by first | (with_reducible assumption) | assumption); have q21 : (t283 : Int) < ((x4_1.length : Int) : Int) := of_decide_eq_true (by first | (with_reducible assumption) | assumption); obtain ⟨go21, co21, eo21, gb21, gl21, cl21, HG21⟩ := Kd.R_form HO_4.out (by omega); (first | cases eo21 | (injection eo21 with ea_ en_ ec_; (first | subst ea_ | (injection ea_ with ea_; subst ea_)); subst ec_; clear en_)); have GB21 := aM gb21; have GG21 := aM HG21; clear gb21 gl21 HG21; obtain ⟨hx21_0, hf21_0⟩ := Kd.R_celln 0 HO_4.out (t283 : Int) p21 q21; replace p21 := eq_true p21; replace q21 := eq_true q21; obtain ⟨hy24_, hz24_⟩ := Kd.R_celln 0 HO_4.out (t283 : Int) (of_decide_eq_true (by first | (with_reducible assumption) | assumption)) (of_decide_eq_true (by first | (with_reducible assumption) | assumption)); have HP24 := Kd.R_putg HO_4.out (t283 : Int) 0) | ((with_reducible refine gate_store (t := 3) (p := 36) rfl ?_); refine store_event (t := 3) (p := 36) (v := ?vo_w25) (w1 := (wr.setCell ⟨go21, (t283 : Int).toNat, none⟩ (.int .i64 0))) ?hg ?ho ?hn ?hr ?_; (case ho => rfl); (case hg => rfl); (case hn => rfl); (case hr => first | (go_simp; done) | (go_simp; rfl)); intro w25 hw; have hg : wr.grownBy w25 (some go21) := (by rw [hw]; exact HP24.2); have hp_ : Kd.R (Kd.int .i64) 3 w25 w.heap.size (fun k_ => some k_ ≠ (v280 : Value).ownBlock) (.slice (some ⟨go21, 0, none⟩) x4_1.length co11) y284 := (by rw [hw, Ny284.out]; exact HP24.1); clear HP24; have n0_ := aM (hp_); have n1_ := aM (Kd.R_after (v := (.slice (some ⟨go21, 0, none⟩) x4_1.length co11)) (v1 := (.slice (some ⟨go21, 0, none⟩) x4_1.length co11)) (ok := (fun _ => True)) (by (with_reducible repeat (first | apply rA | apply rN | apply rD)); exact Kd.R_mono HO_5.out (fun _ hk => ⟨trivial, hk⟩)) hg (.inl rfl)); have n2_ := aM ((by rw [hw]; exact below_set (HB.out) GB21.out : Below w.heap.size w w25)); clear HO_4; clear HO_5; clear HB; have HO_4 := n0_; have HO_5 := n1_; have HB := n2_; clear n0_ n1_ n2_; clear hg hw hp_; have p23 : 0 ≤ (t283 : Int) := of_decide_eq_true (by first | (with_reducible assumption) | assumption); have q23 : (t283 : Int) < ((y279.length : Int) : Int) := of_decide_eq_true (by first | (with_reducible assumption) | assumption); obtain ⟨go23, co23, eo23, gb23, gl23, cl23, HG23⟩ := Kd.R_form HO_5.out (by omega); (first | cases eo23 | (injection eo23 with ea_ en_ ec_; (first | subst ea_ | (injection ea_ with ea_; subst ea_)); subst ec_; clear en_)); have GB23 := aM gb23; have GG23 := aM HG23; clear gb23 gl23 HG23; obtain ⟨hx23_0, hf23_0⟩ := Kd.R_celln 0 HO_5.out (t283 : Int) p23 q23; replace p23 := eq_true p23; replace q23 := eq_true q23; have n_ := aM (Kd.R_mono (ok' := (fun k_ => some k_ ≠ (.slice (some ⟨go21, 0, none⟩) x4_1.length co11 : Value).ownBlock)) HO_5.out (fun k_ hk => hk.2)); clear HO_5; have HO_5 := n_; clear n_; obtain ⟨hy26_, hz26_⟩ := Kd.R_celln 0 HO_5.out (t283 : Int) (of_decide_eq_true (by first | (with_reducible assumption) | assumption)) (of_decide_eq_true (by first | (with_reducible assumption) | assumption)); have HP26 := Kd.R_putg HO_5.out (t283 : Int) 1) | ((with_reducible refine gate_store (t := 3) (p := 39) rfl ?_); refine store_event (t := 3) (p := 39) (v := ?vo_w27) (w1 := (w25.setCell ⟨go23, (t283 : Int).toNat, none⟩ (.int .i64 1))) ?hg ?ho ?hn ?hr ?_; (case ho => rfl); (case hg => rfl); (case hn => rfl); (case hr => first | (go_simp; done) | (go_simp; rfl)); intro w27 hw; have hg : w25.grownBy w27 (some go23) := (by rw [hw]; exact HP26.2); have hp_ : Kd.R (Kd.int .i64) 3 w27 w.heap.size (fun k_ => some k_ ≠ (.slice (some ⟨go21, 0, none⟩) x4_1.length co11 : Value).ownBlock) (.slice (some ⟨go23, 0, none⟩) y279.length co23) y285 := (by rw [hw, Ny285.out]; exact HP26.1); clear HP26; have n0_ := aM (Kd.R_after (v := (.slice (some ⟨go23, 0, none⟩) y279.length co23)) (v1 := (.slice (some ⟨go23, 0, none⟩) y279.length co23)) (ok := (fun _ => True)) (by (with_reducible repeat (first | apply rA | apply rN | apply rD)); exact Kd.R_mono HO_4.out (fun _ hk => ⟨trivial, hk⟩)) hg (.inl rfl)); have n1_ := aM (hp_); have n2_ := aM ((by rw [hw]; exact below_set (HB.out) GB23.out : Below w.heap.size w w27)); clear HO_4; clear HO_5; clear HB; have HO_4 := n0_; have HO_5 := n1_; have HB := n2_; clear n0_ n1_ n2_; clear hg hw hp_) | ((with_reducible refine gate_dst (N := 41) rfl ?_); refine Kd.R_lit Kd.string _ 9 ?hg (N := 41) ?hd (xs := ([a0] : List ByteArray)) (inner := [.string a0]) (ok := fun _ => True) (okp := fun _ => True) ?hr ?hp (fun _ hk => hk) trivial (Below.refl _ _) (Nat.le_refl _) (by simp) ?_; (case hd => rfl); (case hg => rfl); (case hr => first | (go_simp; done) | (go_simp; rfl)); (case hp => exact (Reps.one (show Kd.M Kd.string _ _ _ a0 [.string a0] from rfl) (Reps.none _ _))); intro v287 w28 ho29 hb hg_ hnew_; clear hg_ hnew_; (first | rw [← Ny286.out] at ho29 | (simp only [Int.reduceToNat] at ho29; rw [← Ny286.out] at ho29)); have n0_ := aM (Kd.R_below (by (with_reducible repeat (first | apply rA | apply rN | apply rD)); exact HO_4.out) hb); have n1_ := aM (Kd.R_below (by (with_reducible repeat (first | apply rA | apply rN | apply rD)); exact HO_5.out) hb); have n2_ := aM (Kd.R_lower ho29 (below_size (by repeat (first | (with_reducible first | exact HB.out | apply bA | apply bN | apply bD) | exact HB.out)))); have n3_ := aM (below_step (by repeat (first | (with_reducible first | exact HB.out | apply bA | apply bN | apply bD) | exact HB.out)) hb); clear HO_4; clear HO_5; clear HB; have HO_4 := n0_; have HO_5 := n1_; have HO288 := n2_; have HB := n3_; clear n0_ n1_ n2_ n3_; clear hb ho29))
         go_loopg [8, 9] k1 (fun kq v8 v9 w' => ∃ (x4_2 : List Int) (x5_2 : List Int) (x8_2 : List ByteArray) (x9_2 : Int), v9 = .int .i64 x9_2 ∧ Aside0 (spec_twFar.l1 kq x4_2 x5_2 x8_2 x9_2 = some (r1, r2)) ∧ Aside0 (kq ≤ k1) ∧ Aside0 (Kd.R (Kd.int .i64) 3 w' w.heap.size (fun k_ => some k_ ≠ ((.slice (some ⟨go23, 0, none⟩) y279.length co23) : Value).ownBlock) (.slice (some ⟨go21, 0, none⟩) x4_1.length co11) x4_2) ∧ Aside0 (Kd.R (Kd.int .i64) 3 w' w.heap.size (fun k_ => some k_ ≠ ((.slice (some ⟨go21, 0, none⟩) x4_1.length co11) : Value).ownBlock) (.slice (some ⟨go23, 0, none⟩) y279.length co23) x5_2) ∧ Aside0 (Kd.R Kd.string 9 w' w.heap.size (fun _ => True) v8 x8_2) ∧ Aside0 (Below w.heap.size w w'))
         case atStart => exact ⟨(y284), (y285), (y286), (0), (by first | rfl | (simp; done) | (simp [*]; done)), H', ⟨Nat.le_refl _⟩, ⟨by (try simp only [hl4_1]); (with_reducible repeat (first | apply rA | apply rN | apply rD)); exact Kd.R_mono HO_4.out (fun _ hk => hk.2)⟩, ⟨by (try simp only [hl4_1]); (with_reducible repeat (first | apply rA | apply rN | apply rD)); exact HO_5.out⟩, ⟨by (try simp only [hl4_1]); (with_reducible repeat (first | apply rA | apply rN | apply rD)); exact HO288.out⟩, ⟨by repeat (first | (with_reducible first | exact HB.out | apply bA | apply bN | apply bD) | exact HB.out)⟩⟩
         case round =>
          clear H'
          try clear c1
          try clear p1
          try clear q1
          try clear hx1
          try clear hf1
          try clear c2
          try clear p2
          try clear q2
          try clear hx2
          try clear hf2
          try clear c3
          try clear c3b0
          try clear c3b1
          try clear c4
          try clear c4b0
          try clear c4b1
          try clear p6
          try clear c12
          try clear c12b0
          try clear c13
          try clear c13b0
          try clear c14
          try clear c14b0
          try clear p15
          try clear q15
          try clear hx15
          try clear hf15
          try clear c19
          try clear c19b0
          try clear c20
          try clear c20b0
          try clear p21
          try clear q21
          try clear hx21
          try clear hf21
          try clear c22
          try clear c22b0
          try clear p23
          try clear q23
          try clear hx23
          try clear hf23
          try clear hx15_0
          try clear hx21_0
          try clear hx23_0
          try clear p15
          try clear p2
          try clear p21
          try clear p23
          try clear p6
          try clear q15
          try clear q21
          try clear q23
          obtain ⟨x4_2, x5_2, x8_2, x9_2, rfl, HA, HK2, HO_4, HO_5, HO_8, HB⟩ := hrel
          have hl4_2 := (Kd.R_reads' HO_4.out).1
          rw [hl4_2] at HO_4
          (try simp only [hl4_2])
          (try simp only [hl4_2] at HO_5)
          (try simp only [hl4_2] at HO_8)
          have hl5_2 := (Kd.R_reads' HO_5.out).1
          rw [hl5_2] at HO_5
          (try simp only [hl5_2])
          (try simp only [hl5_2] at HO_4)
          (try simp only [hl5_2] at HO_8)
          cases gk with
          | zero => exact absurd HA.out (by simp [spec_twFar.l1])
          | succ k2 =>
           have H := HA.out
           clear HA
           simp only [spec_twFar.l1] at H
           by_cases c30 : x9_2 < (x8_2.length : Int)
           ·rw [if_pos c30] at H
            have c30b0 : decide (x9_2 < (x8_2.length : Int)) = true := decide_eq_true c30
            (try (have c30m0 := c30b0; simp only [hl4_1] at c30m0)); (try (have c30m1 := c30b0; simp only [hl4_2] at c30m1)); (try (have c30m2 := c30b0; simp only [hl5_2] at c30m2))
            clear c30
            by_cases c31 : 0 ≤ x9_2
            ·rw [if_pos c31] at H
             have c31b0 : decide (0 ≤ x9_2) = true := decide_eq_true c31
             clear c31
             replace H := Option.bind_eq_some_iff.mp H
             obtain ⟨t290, A320, H⟩ := H
             replace H : ((spec_twMoves.f k2 (rdOf ByteArray.empty x8_2 x9_2)).bind fun t292 => (spec_twFar.l2 k2 x4_2 x5_2 x8_2 x9_2 t290 t292 (t292.length : Int) 0)) = some (r1, r2) := H
             have A32 := aM A320
             clear A320
             replace H := Option.bind_eq_some_iff.mp H
             obtain ⟨t292, A330, H⟩ := H
             replace H : (spec_twFar.l2 k2 x4_2 x5_2 x8_2 x9_2 t290 t292 (t292.length : Int) 0) = some (r1, r2) := H
             have A33 := aM A330
             clear A330
             have H' := aM H
             clear H
             obtain ⟨Ao34, co34, eo34⟩ := Kd.R_slice HO_8.out
             subst eo34
             have p289 : 0 ≤ (x9_2 : Int) := of_decide_eq_true (by first | (with_reducible assumption) | assumption)
             have q289 : x9_2 < (x8_2.length : Int) := of_decide_eq_true (by first | (with_reducible assumption) | assumption)
             obtain ⟨ad289, e289, hx289_0⟩ := Kd.at_string (Kd.R_reads' HO_8.out).2.2 x9_2 p289 q289
             cases e289
             replace p289 := eq_true p289
             replace q289 := eq_true q289
             go_wp2_with (first | ((with_reducible refine gate_callee (f := 44) rfl ?_); refine goesL_ (some 52) rfl rfl Tryz.func44 (by kernel_rfl) rfl #[.string (rdOf ByteArray.empty x8_2 x9_2)] rfl (by (try simp only [List.map_toArray, List.map_cons, List.map_nil]); first | done | rfl | (simp only [List.length_drop, List.length_take]; rfl)) ?_; (with_reducible refine (spec_riNumber.calls k2 (rdOf ByteArray.empty x8_2 x9_2) t290 _ A32.out).mono ?_); rintro e w' ⟨rfl, ⟨nd, rfl⟩⟩; refine ⟨_, rfl, ?_⟩; have p291 : 0 ≤ (x9_2 : Int) := of_decide_eq_true (by first | (with_reducible assumption) | assumption); have q291 : x9_2 < (x8_2.length : Int) := of_decide_eq_true (by first | (with_reducible assumption) | assumption); obtain ⟨ad291, e291, hx291_0⟩ := Kd.at_string (Kd.R_reads' HO_8.out).2.2 x9_2 p291 q291; obtain rfl : ad289 = ad291 := (by injection e291); replace p291 := eq_true p291; replace q291 := eq_true q291) | ((with_reducible refine gate_callee (f := 53) rfl ?_); refine goesL_ (some 57) rfl rfl Tryz.func53 (by kernel_rfl) rfl #[.string (rdOf ByteArray.empty x8_2 x9_2)] rfl (by (try simp only [List.map_toArray, List.map_cons, List.map_nil]); first | done | rfl | (simp only [List.length_drop, List.length_take]; rfl)) ?_; (with_reducible refine (spec_twMoves.calls k2 (rdOf ByteArray.empty x8_2 x9_2) t292 _ A33.out).mono ?_); rintro e w35 ⟨v293, rfl, ho0, hb⟩; refine ⟨_, rfl, ?_⟩; have n0_ := aM (Kd.R_elder' (by (with_reducible repeat (first | apply rA | apply rN | apply rD)); exact HO_4.out) (Kd.R_base ho0) hb); have n1_ := aM (Kd.R_elder' (by (with_reducible repeat (first | apply rA | apply rN | apply rD)); exact HO_5.out) (Kd.R_base ho0) hb); have n2_ := aM (Kd.R_below (by (with_reducible repeat (first | apply rA | apply rN | apply rD)); exact HO_8.out) hb); have n3_ := aM (Kd.R_lower (Kd.R_new' (Kd.R_new' ho0 (Kd.R_lt (by (with_reducible repeat (first | apply rA | apply rN | apply rD)); exact HO_4.out))) (Kd.R_lt (by (with_reducible repeat (first | apply rA | apply rN | apply rD)); exact HO_5.out))) (below_size (by repeat (first | (with_reducible first | exact HB.out | apply bA | apply bN | apply bD) | exact HB.out)))); have n4_ := aM (below_step (by repeat (first | (with_reducible first | exact HB.out | apply bA | apply bN | apply bD) | exact HB.out)) hb); clear HO_4; clear HO_5; clear HO_8; clear HB; have HO_4 := n0_; have HO_5 := n1_; have HO_8 := n2_; have HO294 := n3_; have HB := n4_; clear n0_ n1_ n2_ n3_ n4_; (try clear hb); (try clear hb2); (try clear hk); (try clear hi); (try clear ho0); obtain ⟨Ao36, co36, eo36⟩ := Kd.R_slice HO294.out; subst eo36))
             go_loopg [8, 59] k2 (fun kq v8 v59 w' => ∃ (x4_3 : List Int) (x5_3 : List Int) (x8_3 : List ByteArray) (x59_3 : Int), v59 = .int .i64 x59_3 ∧ Aside0 (spec_twFar.l2 kq x4_3 x5_3 x8_3 x9_2 t290 t292 (t292.length : Int) x59_3 = some (r1, r2)) ∧ Aside0 (kq ≤ k2) ∧ Aside0 (Kd.R (Kd.int .i64) 3 w' w.heap.size (fun k_ => some k_ ≠ ((.slice (some ⟨go23, 0, none⟩) x5_2.length co23) : Value).ownBlock ∧ some k_ ≠ ((.slice Ao36 t292.length co36) : Value).ownBlock) (.slice (some ⟨go21, 0, none⟩) x4_2.length co11) x4_3) ∧ Aside0 (Kd.R (Kd.int .i64) 3 w' w.heap.size (fun k_ => some k_ ≠ ((.slice (some ⟨go21, 0, none⟩) x4_2.length co11) : Value).ownBlock ∧ some k_ ≠ ((.slice Ao36 t292.length co36) : Value).ownBlock) (.slice (some ⟨go23, 0, none⟩) x5_2.length co23) x5_3) ∧ Aside0 (Kd.R Kd.string 9 w' w.heap.size (fun _ => True) v8 x8_3) ∧ Aside0 (Kd.R (Kd.int .i64) 3 w' w.heap.size (fun k_ => some k_ ≠ ((.slice (some ⟨go21, 0, none⟩) x4_2.length co11) : Value).ownBlock ∧ some k_ ≠ ((.slice (some ⟨go23, 0, none⟩) x5_2.length co23) : Value).ownBlock) (.slice Ao36 t292.length co36) t292) ∧ Aside0 (Below w.heap.size w w'))
             case atStart => exact ⟨(x4_2), (x5_2), (x8_2), (0), (by first | rfl | (simp; done) | (simp [*]; done)), H', ⟨Nat.le_refl _⟩, ⟨by (try simp only [hl4_1]); (try simp only [hl4_2]); (try simp only [hl5_2]); (with_reducible repeat (first | apply rA | apply rN | apply rD)); exact HO_4.out⟩, ⟨by (try simp only [hl4_1]); (try simp only [hl4_2]); (try simp only [hl5_2]); (with_reducible repeat (first | apply rA | apply rN | apply rD)); exact HO_5.out⟩, ⟨by (try simp only [hl4_1]); (try simp only [hl4_2]); (try simp only [hl5_2]); (with_reducible repeat (first | apply rA | apply rN | apply rD)); exact HO_8.out⟩, ⟨by (try simp only [hl4_1]); (try simp only [hl4_2]); (try simp only [hl5_2]); (with_reducible repeat (first | apply rA | apply rN | apply rD)); exact Kd.R_mono HO294.out (fun _ hk => ⟨hk.1.2, hk.2⟩)⟩, ⟨by repeat (first | (with_reducible first | exact HB.out | apply bA | apply bN | apply bD) | exact HB.out)⟩⟩
             case round =>
              clear H'
              try clear c1
              try clear p1
              try clear q1
              try clear hx1
              try clear hf1
              try clear c2
              try clear p2
              try clear q2
              try clear hx2
              try clear hf2
              try clear c3
              try clear c3b0
              try clear c3b1
              try clear c4
              try clear c4b0
              try clear c4b1
              try clear c5
              try clear p6
              try clear c12
              try clear c12b0
              try clear c13
              try clear c13b0
              try clear c14
              try clear c14b0
              try clear p15
              try clear q15
              try clear hx15
              try clear hf15
              try clear c19
              try clear c19b0
              try clear c20
              try clear c20b0
              try clear p21
              try clear q21
              try clear hx21
              try clear hf21
              try clear c22
              try clear c22b0
              try clear p23
              try clear q23
              try clear hx23
              try clear hf23
              try clear p28
              try clear q28
              try clear hx28
              try clear p29
              try clear q29
              try clear hx29
              try clear c30
              try clear c30b0
              try clear c31
              try clear c31b0
              try clear c32
              try clear hx15_0
              try clear hx21_0
              try clear hx23_0
              try clear hx289_0
              try clear hx291_0
              try clear p1
              try clear p15
              try clear p2
              try clear p21
              try clear p23
              try clear p289
              try clear p291
              try clear p6
              try clear q1
              try clear q15
              try clear q2
              try clear q21
              try clear q23
              try clear q289
              try clear q291
              obtain ⟨x4_3, x5_3, x8_3, x59_3, rfl, HA, HK3, HO_4, HO_5, HO_8, HO_57, HB⟩ := hrel
              have hl4_3 := (Kd.R_reads' HO_4.out).1
              rw [hl4_3] at HO_4
              (try simp only [hl4_3])
              (try simp only [hl4_3] at HO_5)
              (try simp only [hl4_3] at HO_8)
              (try simp only [hl4_3] at HO_57)
              have hl5_3 := (Kd.R_reads' HO_5.out).1
              rw [hl5_3] at HO_5
              (try simp only [hl5_3])
              (try simp only [hl5_3] at HO_4)
              (try simp only [hl5_3] at HO_8)
              (try simp only [hl5_3] at HO_57)
              cases gk with
              | zero => exact absurd HA.out (by simp [spec_twFar.l2])
              | succ k3 =>
               have H := HA.out
               clear HA
               simp only [spec_twFar.l2] at H
               by_cases c37 : x59_3 < (t292.length : Int)
               ·rw [if_pos c37] at H
                have c37b0 : decide (x59_3 < (t292.length : Int)) = true := decide_eq_true c37
                (try (have c37m0 := c37b0; simp only [hl4_1] at c37m0)); (try (have c37m1 := c37b0; simp only [hl4_2] at c37m1)); (try (have c37m2 := c37b0; simp only [hl5_2] at c37m2)); (try (have c37m3 := c37b0; simp only [hl4_3] at c37m3)); (try (have c37m4 := c37b0; simp only [hl5_3] at c37m4))
                clear c37
                by_cases c38 : 0 ≤ x59_3
                ·rw [if_pos c38] at H
                 have c38b0 : decide (0 ≤ x59_3) = true := decide_eq_true c38
                 clear c38
                 by_cases c39 : x59_3 < (t292.length : Int)
                 ·rw [if_pos c39] at H
                  have c39b0 : decide (x59_3 < (t292.length : Int)) = true := decide_eq_true c39
                  (try (have c39m0 := c39b0; simp only [hl4_1] at c39m0)); (try (have c39m1 := c39b0; simp only [hl4_2] at c39m1)); (try (have c39m2 := c39b0; simp only [hl5_2] at c39m2)); (try (have c39m3 := c39b0; simp only [hl4_3] at c39m3)); (try (have c39m4 := c39b0; simp only [hl5_3] at c39m4))
                  clear c39
                  by_cases c40 : 0 ≤ x9_2
                  ·rw [if_pos c40] at H
                   have c40b0 : decide (0 ≤ x9_2) = true := decide_eq_true c40
                   clear c40
                   by_cases c41 : x9_2 < (x8_3.length : Int)
                   ·rw [if_pos c41] at H
                    have c41b0 : decide (x9_2 < (x8_3.length : Int)) = true := decide_eq_true c41
                    (try (have c41m0 := c41b0; simp only [hl4_1] at c41m0)); (try (have c41m1 := c41b0; simp only [hl4_2] at c41m1)); (try (have c41m2 := c41b0; simp only [hl5_2] at c41m2)); (try (have c41m3 := c41b0; simp only [hl4_3] at c41m3)); (try (have c41m4 := c41b0; simp only [hl5_3] at c41m4))
                    clear c41
                    replace H := Option.bind_eq_some_iff.mp H
                    obtain ⟨t297, A420, H⟩ := H
                    replace H : ((spec_riNumber.f k3 t297).bind fun t298 => (if 0 ≤ t298 then (if t298 < (x4_3.length : Int) then (if (rd x4_3 t298) < 0 then (if 0 ≤ t290 then (if t290 < (x4_3.length : Int) then ((some (x4_3.set (t298 : Int).toNat (wrap64 ((rd x4_3 t290) + 1)) : List Int)).bind fun y301 => (if x8_3.length < 8796093022208 then ((some (x8_3 ++ [t297] : List ByteArray)).bind fun y302 => (if (rd y301 t298) = (wrap64 ((rd y301 t290) + 1)) then (if t298 < (x5_3.length : Int) then (if t290 < (x5_3.length : Int) then (spec_twFar.l2 k3 y301 (x5_3.set (t298 : Int).toNat (wrap64 ((rd x5_3 t298) + (rd x5_3 t290)))) y302 x9_2 t290 t292 (t292.length : Int) (wrap64 (x59_3 + 1))) else (none)) else (none)) else (spec_twFar.l2 k3 y301 x5_3 y302 x9_2 t290 t292 (t292.length : Int) (wrap64 (x59_3 + 1))))) else (none))) else (none)) else (none)) else (if 0 ≤ t290 then (if t290 < (x4_3.length : Int) then (if (rd x4_3 t298) = (wrap64 ((rd x4_3 t290) + 1)) then (if t298 < (x5_3.length : Int) then (if t290 < (x5_3.length : Int) then (spec_twFar.l2 k3 x4_3 (x5_3.set (t298 : Int).toNat (wrap64 ((rd x5_3 t298) + (rd x5_3 t290)))) x8_3 x9_2 t290 t292 (t292.length : Int) (wrap64 (x59_3 + 1))) else (none)) else (none)) else (spec_twFar.l2 k3 x4_3 x5_3 x8_3 x9_2 t290 t292 (t292.length : Int) (wrap64 (x59_3 + 1)))) else (none)) else (none))) else (none)) else (none))) = some (r1, r2) := H
                    have A42 := aM A420
                    clear A420
                    replace H := Option.bind_eq_some_iff.mp H
                    obtain ⟨t298, A430, H⟩ := H
                    replace H : (if 0 ≤ t298 then (if t298 < (x4_3.length : Int) then (if (rd x4_3 t298) < 0 then (if 0 ≤ t290 then (if t290 < (x4_3.length : Int) then ((some (x4_3.set (t298 : Int).toNat (wrap64 ((rd x4_3 t290) + 1)) : List Int)).bind fun y301 => (if x8_3.length < 8796093022208 then ((some (x8_3 ++ [t297] : List ByteArray)).bind fun y302 => (if (rd y301 t298) = (wrap64 ((rd y301 t290) + 1)) then (if t298 < (x5_3.length : Int) then (if t290 < (x5_3.length : Int) then (spec_twFar.l2 k3 y301 (x5_3.set (t298 : Int).toNat (wrap64 ((rd x5_3 t298) + (rd x5_3 t290)))) y302 x9_2 t290 t292 (t292.length : Int) (wrap64 (x59_3 + 1))) else (none)) else (none)) else (spec_twFar.l2 k3 y301 x5_3 y302 x9_2 t290 t292 (t292.length : Int) (wrap64 (x59_3 + 1))))) else (none))) else (none)) else (none)) else (if 0 ≤ t290 then (if t290 < (x4_3.length : Int) then (if (rd x4_3 t298) = (wrap64 ((rd x4_3 t290) + 1)) then (if t298 < (x5_3.length : Int) then (if t290 < (x5_3.length : Int) then (spec_twFar.l2 k3 x4_3 (x5_3.set (t298 : Int).toNat (wrap64 ((rd x5_3 t298) + (rd x5_3 t290)))) x8_3 x9_2 t290 t292 (t292.length : Int) (wrap64 (x59_3 + 1))) else (none)) else (none)) else (spec_twFar.l2 k3 x4_3 x5_3 x8_3 x9_2 t290 t292 (t292.length : Int) (wrap64 (x59_3 + 1)))) else (none)) else (none))) else (none)) else (none)) = some (r1, r2) := H
                    have A43 := aM A430
                    clear A430
                    by_cases c44 : 0 ≤ t298
                    ·rw [if_pos c44] at H
                     have c44b0 : decide (0 ≤ t298) = true := decide_eq_true c44
                     clear c44
                     by_cases c45 : t298 < (x4_3.length : Int)
                     ·rw [if_pos c45] at H
                      have c45b0 : decide (t298 < (x4_3.length : Int)) = true := decide_eq_true c45
                      (try (have c45m0 := c45b0; simp only [hl4_1] at c45m0)); (try (have c45m1 := c45b0; simp only [hl4_2] at c45m1)); (try (have c45m2 := c45b0; simp only [hl5_2] at c45m2)); (try (have c45m3 := c45b0; simp only [hl4_3] at c45m3)); (try (have c45m4 := c45b0; simp only [hl5_3] at c45m4))
                      clear c45
                      by_cases c46 : (rd x4_3 t298) < 0
                      ·rw [if_pos c46] at H
                       have c46b0 : decide ((rd x4_3 t298) < 0) = true := decide_eq_true c46
                       clear c46
                       by_cases c47 : 0 ≤ t290
                       ·rw [if_pos c47] at H
                        have c47b0 : decide (0 ≤ t290) = true := decide_eq_true c47
                        clear c47
                        by_cases c48 : t290 < (x4_3.length : Int)
                        ·rw [if_pos c48] at H
                         have c48b0 : decide (t290 < (x4_3.length : Int)) = true := decide_eq_true c48
                         (try (have c48m0 := c48b0; simp only [hl4_1] at c48m0)); (try (have c48m1 := c48b0; simp only [hl4_2] at c48m1)); (try (have c48m2 := c48b0; simp only [hl5_2] at c48m2)); (try (have c48m3 := c48b0; simp only [hl4_3] at c48m3)); (try (have c48m4 := c48b0; simp only [hl5_3] at c48m4))
                         clear c48
                         obtain ⟨y301, hy301⟩ : ∃ y_ : List Int, y_ = (x4_3.set (t298 : Int).toNat (wrap64 ((rd x4_3 t290) + 1))) := ⟨_, rfl⟩
                         replace H : (if x8_3.length < 8796093022208 then ((some (x8_3 ++ [t297] : List ByteArray)).bind fun y302 => (if (rd y301 t298) = (wrap64 ((rd y301 t290) + 1)) then (if t298 < (x5_3.length : Int) then (if t290 < (x5_3.length : Int) then (spec_twFar.l2 k3 y301 (x5_3.set (t298 : Int).toNat (wrap64 ((rd x5_3 t298) + (rd x5_3 t290)))) y302 x9_2 t290 t292 (t292.length : Int) (wrap64 (x59_3 + 1))) else (none)) else (none)) else (spec_twFar.l2 k3 y301 x5_3 y302 x9_2 t290 t292 (t292.length : Int) (wrap64 (x59_3 + 1))))) else (none)) = some (r1, r2) := by first | (rw [hy301]; with_reducible exact H) | (have H2_ := (Option.bind_some _ _).symm.trans H; rw [hy301]; with_reducible exact H2_) | (have H2_ := (Option.bind_some _ _).symm.trans H; with_reducible exact H2_) | with_reducible exact H | (rw [hy301]; exact H) | exact H
                         have Ny301 := aM hy301
                         clear hy301
                         by_cases c50 : x8_3.length < 8796093022208
                         ·rw [if_pos c50] at H
                          have LMc50 := aM c50
                          clear c50
                          obtain ⟨y302, hy302⟩ : ∃ y_ : List ByteArray, y_ = (x8_3 ++ [t297]) := ⟨_, rfl⟩
                          replace H : (if (rd y301 t298) = (wrap64 ((rd y301 t290) + 1)) then (if t298 < (x5_3.length : Int) then (if t290 < (x5_3.length : Int) then (spec_twFar.l2 k3 y301 (x5_3.set (t298 : Int).toNat (wrap64 ((rd x5_3 t298) + (rd x5_3 t290)))) y302 x9_2 t290 t292 (t292.length : Int) (wrap64 (x59_3 + 1))) else (none)) else (none)) else (spec_twFar.l2 k3 y301 x5_3 y302 x9_2 t290 t292 (t292.length : Int) (wrap64 (x59_3 + 1)))) = some (r1, r2) := by first | (rw [hy302]; with_reducible exact H) | (have H2_ := (Option.bind_some _ _).symm.trans H; rw [hy302]; with_reducible exact H2_) | (have H2_ := (Option.bind_some _ _).symm.trans H; with_reducible exact H2_) | with_reducible exact H | (rw [hy302]; exact H) | exact H
                          have Ny302 := aM hy302
                          clear hy302
                          by_cases c51 : (rd y301 t298) = (wrap64 ((rd y301 t290) + 1))
                          ·rw [if_pos c51] at H
                           have c51b0 : ((rd y301 t298) == (wrap64 ((rd y301 t290) + 1))) = true := beq_iff_eq.mpr c51
                           have c51b1 : ((rd y301 t298) != (wrap64 ((rd y301 t290) + 1))) = false := bne_eq_false_iff_eq.mpr c51
                           clear c51
                           by_cases c52 : t298 < (x5_3.length : Int)
                           ·rw [if_pos c52] at H
                            have c52b0 : decide (t298 < (x5_3.length : Int)) = true := decide_eq_true c52
                            (try (have c52m0 := c52b0; simp only [hl4_1] at c52m0)); (try (have c52m1 := c52b0; simp only [hl4_2] at c52m1)); (try (have c52m2 := c52b0; simp only [hl5_2] at c52m2)); (try (have c52m3 := c52b0; simp only [hl4_3] at c52m3)); (try (have c52m4 := c52b0; simp only [hl5_3] at c52m4))
                            clear c52
                            by_cases c53 : t290 < (x5_3.length : Int)
                            ·rw [if_pos c53] at H
                             have c53b0 : decide (t290 < (x5_3.length : Int)) = true := decide_eq_true c53
                             (try (have c53m0 := c53b0; simp only [hl4_1] at c53m0)); (try (have c53m1 := c53b0; simp only [hl4_2] at c53m1)); (try (have c53m2 := c53b0; simp only [hl5_2] at c53m2)); (try (have c53m3 := c53b0; simp only [hl4_3] at c53m3)); (try (have c53m4 := c53b0; simp only [hl5_3] at c53m4))
                             clear c53
                             obtain ⟨y309, hy309⟩ : ∃ y_ : List Int, y_ = (x5_3.set (t298 : Int).toNat (wrap64 ((rd x5_3 t298) + (rd x5_3 t290)))) := ⟨_, rfl⟩
                             replace H : (spec_twFar.l2 k3 y301 y309 y302 x9_2 t290 t292 (t292.length : Int) (wrap64 (x59_3 + 1))) = some (r1, r2) := by first | (rw [hy309]; with_reducible exact H) | (have H2_ := (Option.bind_some _ _).symm.trans H; rw [hy309]; with_reducible exact H2_) | (have H2_ := (Option.bind_some _ _).symm.trans H; with_reducible exact H2_) | with_reducible exact H | (rw [hy309]; exact H) | exact H
                             have Ny309 := aM hy309
                             clear hy309
                             have H' := aM H
                             clear H
                             have p295 : 0 ≤ (x59_3 : Int) := of_decide_eq_true (by first | (with_reducible assumption) | assumption)
                             have q295 : x59_3 < (t292.length : Int) := of_decide_eq_true (by first | (with_reducible assumption) | assumption)
                             obtain ⟨ad295, e295, hx295_0⟩ := Kd.at_int (Kd.R_reads' HO_57.out).2.2 x59_3 p295 q295
                             cases e295
                             replace p295 := eq_true p295
                             replace q295 := eq_true q295
                             obtain ⟨Ao55, co55, eo55⟩ := Kd.R_slice HO_8.out
                             subst eo55
                             have p296 : 0 ≤ (x9_2 : Int) := of_decide_eq_true (by first | (with_reducible assumption) | assumption)
                             have q296 : x9_2 < (x8_3.length : Int) := of_decide_eq_true (by first | (with_reducible assumption) | assumption)
                             obtain ⟨ad296, e296, hx296_0⟩ := Kd.at_string (Kd.R_reads' HO_8.out).2.2 x9_2 p296 q296
                             cases e296
                             replace p296 := eq_true p296
                             replace q296 := eq_true q296
                             try go_wp2_with (first | ((with_reducible refine gate_callee (f := 54) rfl ?_); refine goesL_ (some 68) rfl rfl Tryz.func54 (by kernel_rfl) rfl #[.string (rdOf ByteArray.empty x8_3 x9_2), .int .i64 (rd t292 x59_3)] rfl (by (try simp only [List.map_toArray, List.map_cons, List.map_nil]); first | done | rfl | (simp only [List.length_drop, List.length_take]; rfl)) ?_; (with_reducible refine (spec_twMake.calls (rdOf ByteArray.empty x8_3 x9_2) (rd t292 x59_3) t297 _ A42.out).mono ?_); rintro e w' ⟨rfl, ⟨nd, rfl⟩⟩; refine ⟨_, rfl, ?_⟩; (try (rw [drewN_self wr]; generalize hq_ : World.drewN wr _ = wr; have n0_ : Aside0 (Kd.R (Kd.int .i64) 3 wr w.heap.size (fun k_ => some k_ ≠ (.slice (some ⟨go23, 0, none⟩) x5_3.length co23 : Value).ownBlock ∧ some k_ ≠ (.slice (some ad295) t292.length co36 : Value).ownBlock) (.slice (some ⟨go21, 0, none⟩) x4_3.length co11) x4_3) := ⟨by rw [← hq_]; exact (by (with_reducible repeat (first | apply rA | apply rN | apply rD)); exact HO_4.out)⟩; have n1_ : Aside0 (Kd.R (Kd.int .i64) 3 wr w.heap.size (fun k_ => some k_ ≠ (.slice (some ⟨go21, 0, none⟩) x4_3.length co11 : Value).ownBlock ∧ some k_ ≠ (.slice (some ad295) t292.length co36 : Value).ownBlock) (.slice (some ⟨go23, 0, none⟩) x5_3.length co23) x5_3) := ⟨by rw [← hq_]; exact (by (with_reducible repeat (first | apply rA | apply rN | apply rD)); exact HO_5.out)⟩; have n2_ : Aside0 (Kd.R Kd.string 9 wr w.heap.size (fun _ => True) (.slice (some ad296) x8_3.length co55) x8_3) := ⟨by rw [← hq_]; exact (by (with_reducible repeat (first | apply rA | apply rN | apply rD)); exact HO_8.out)⟩; have n3_ : Aside0 (Kd.R (Kd.int .i64) 3 wr w.heap.size (fun k_ => some k_ ≠ (.slice (some ⟨go21, 0, none⟩) x4_3.length co11 : Value).ownBlock ∧ some k_ ≠ (.slice (some ⟨go23, 0, none⟩) x5_3.length co23 : Value).ownBlock) (.slice (some ad295) t292.length co36) t292) := ⟨by rw [← hq_]; exact (by (with_reducible repeat (first | apply rA | apply rN | apply rD)); exact HO_57.out)⟩; have n4_ : Aside0 (Below w.heap.size w wr) := ⟨by rw [← hq_]; exact (by repeat (first | (with_reducible first | exact HB.out | apply bA | apply bN | apply bD) | exact HB.out))⟩; clear HO_4 HO_5 HO_8 HO_57 HB hq_; have HO_4 := n0_; have HO_5 := n1_; have HO_8 := n2_; have HO_57 := n3_; have HB := n4_; clear n0_ n1_ n2_ n3_ n4_))) | ((with_reducible refine gate_callee (f := 44) rfl ?_); refine goesL_ (some 70) rfl rfl Tryz.func44 (by kernel_rfl) rfl #[.string t297] rfl (by (try simp only [List.map_toArray, List.map_cons, List.map_nil]); first | done | rfl | (simp only [List.length_drop, List.length_take]; rfl)) ?_; (with_reducible refine (spec_riNumber.calls k3 t297 t298 _ A43.out).mono ?_); rintro e w' ⟨rfl, ⟨nd, rfl⟩⟩; refine ⟨_, rfl, ?_⟩; (try (rw [drewN_self wr]; generalize hq_ : World.drewN wr _ = wr; have n0_ : Aside0 (Kd.R (Kd.int .i64) 3 wr w.heap.size (fun k_ => some k_ ≠ (.slice (some ⟨go23, 0, none⟩) x5_3.length co23 : Value).ownBlock ∧ some k_ ≠ (.slice (some ad295) t292.length co36 : Value).ownBlock) (.slice (some ⟨go21, 0, none⟩) x4_3.length co11) x4_3) := ⟨by rw [← hq_]; exact (by (with_reducible repeat (first | apply rA | apply rN | apply rD)); exact HO_4.out)⟩; have n1_ : Aside0 (Kd.R (Kd.int .i64) 3 wr w.heap.size (fun k_ => some k_ ≠ (.slice (some ⟨go21, 0, none⟩) x4_3.length co11 : Value).ownBlock ∧ some k_ ≠ (.slice (some ad295) t292.length co36 : Value).ownBlock) (.slice (some ⟨go23, 0, none⟩) x5_3.length co23) x5_3) := ⟨by rw [← hq_]; exact (by (with_reducible repeat (first | apply rA | apply rN | apply rD)); exact HO_5.out)⟩; have n2_ : Aside0 (Kd.R Kd.string 9 wr w.heap.size (fun _ => True) (.slice (some ad296) x8_3.length co55) x8_3) := ⟨by rw [← hq_]; exact (by (with_reducible repeat (first | apply rA | apply rN | apply rD)); exact HO_8.out)⟩; have n3_ : Aside0 (Kd.R (Kd.int .i64) 3 wr w.heap.size (fun k_ => some k_ ≠ (.slice (some ⟨go21, 0, none⟩) x4_3.length co11 : Value).ownBlock ∧ some k_ ≠ (.slice (some ⟨go23, 0, none⟩) x5_3.length co23 : Value).ownBlock) (.slice (some ad295) t292.length co36) t292) := ⟨by rw [← hq_]; exact (by (with_reducible repeat (first | apply rA | apply rN | apply rD)); exact HO_57.out)⟩; have n4_ : Aside0 (Below w.heap.size w wr) := ⟨by rw [← hq_]; exact (by repeat (first | (with_reducible first | exact HB.out | apply bA | apply bN | apply bD) | exact HB.out))⟩; clear HO_4 HO_5 HO_8 HO_57 HB hq_; have HO_4 := n0_; have HO_5 := n1_; have HO_8 := n2_; have HO_57 := n3_; have HB := n4_; clear n0_ n1_ n2_ n3_ n4_)); have p299 : 0 ≤ (t298 : Int) := of_decide_eq_true (by first | (with_reducible assumption) | assumption); have q299 : t298 < (x4_3.length : Int) := of_decide_eq_true (by first | (with_reducible assumption) | assumption); obtain ⟨ad299, e299, hx299_0⟩ := Kd.at_int (Kd.R_reads' HO_4.out).2.2 t298 p299 q299; obtain rfl : (⟨go21, 0, none⟩ : Addr) = ad299 := (by injection e299); (first | simp only [add_plain] at hx299_0 | simp only [add_at] at hx299_0 | simp only [Addr.add, Nat.zero_add] at hx299_0 | skip); replace p299 := eq_true p299; replace q299 := eq_true q299; have p300 : 0 ≤ (t290 : Int) := of_decide_eq_true (by first | (with_reducible assumption) | assumption); have q300 : t290 < (x4_3.length : Int) := of_decide_eq_true (by first | (with_reducible assumption) | assumption); obtain ⟨ad300, e300, hx300_0⟩ := Kd.at_int (Kd.R_reads' HO_4.out).2.2 t290 p300 q300; obtain rfl : (⟨go21, 0, none⟩ : Addr) = ad300 := (by injection e300); (first | simp only [add_plain] at hx300_0 | simp only [add_at] at hx300_0 | simp only [Addr.add, Nat.zero_add] at hx300_0 | skip); replace p300 := eq_true p300; replace q300 := eq_true q300; have p49 : 0 ≤ (t298 : Int) := of_decide_eq_true (by first | (with_reducible assumption) | assumption); have q49 : (t298 : Int) < ((x4_3.length : Int) : Int) := of_decide_eq_true (by first | (with_reducible assumption) | assumption); obtain ⟨hx49_0, hf49_0⟩ := Kd.R_celln 0 HO_4.out (t298 : Int) p49 q49; replace p49 := eq_true p49; replace q49 := eq_true q49; obtain ⟨hy56_, hz56_⟩ := Kd.R_celln 0 HO_4.out (t298 : Int) (of_decide_eq_true (by first | (with_reducible assumption) | assumption)) (of_decide_eq_true (by first | (with_reducible assumption) | assumption)); have HP56 := Kd.R_putg HO_4.out (t298 : Int) (wrap64 ((rd x4_3 t290) + 1))) | ((with_reducible refine gate_store (t := 3) (p := 83) rfl ?_); refine store_event (t := 3) (p := 83) (v := ?vo_w57) (w1 := (wr.setCell ⟨go21, (t298 : Int).toNat, none⟩ (.int .i64 (wrap64 ((rd x4_3 t290) + 1))))) ?hg ?ho ?hn ?hr ?_; (case ho => rfl); (case hg => rfl); (case hn => rfl); (case hr => first | (go_simp; done) | (go_simp; rfl)); intro w57 hw; have hg : wr.grownBy w57 (some go21) := (by rw [hw]; exact HP56.2); have hp_ : Kd.R (Kd.int .i64) 3 w57 w.heap.size (fun k_ => some k_ ≠ (.slice (some ⟨go23, 0, none⟩) x5_3.length co23 : Value).ownBlock ∧ some k_ ≠ (.slice (some ad295) t292.length co36 : Value).ownBlock) (.slice (some ⟨go21, 0, none⟩) x4_3.length co11) y301 := (by rw [hw, Ny301.out]; exact HP56.1); clear HP56; have n0_ := aM (hp_); have n1_ := aM (Kd.R_after (v := (.slice (some ⟨go21, 0, none⟩) x4_3.length co11)) (v1 := (.slice (some ⟨go21, 0, none⟩) x4_3.length co11)) (ok := (fun k_ => some k_ ≠ (.slice (some ad295) t292.length co36 : Value).ownBlock)) (by (with_reducible repeat (first | apply rA | apply rN | apply rD)); exact Kd.R_mono HO_5.out (fun _ hk => ⟨hk.2, hk.1⟩)) hg (.inl rfl)); have n2_ := aM (Kd.R_over' (v := (.slice (some ⟨go21, 0, none⟩) x4_3.length co11)) (by (with_reducible repeat (first | apply rA | apply rN | apply rD)); exact HO_8.out) (Kd.R_typed HO_4.out) (by decide) hg); have n3_ := aM (Kd.R_after (v := (.slice (some ⟨go21, 0, none⟩) x4_3.length co11)) (v1 := (.slice (some ⟨go21, 0, none⟩) x4_3.length co11)) (ok := (fun k_ => some k_ ≠ (.slice (some ⟨go23, 0, none⟩) x5_3.length co23 : Value).ownBlock)) (by (with_reducible repeat (first | apply rA | apply rN | apply rD)); exact Kd.R_mono HO_57.out (fun _ hk => ⟨hk.2, hk.1⟩)) hg (.inl rfl)); have n4_ := aM ((by rw [hw]; exact below_set (HB.out) GB21.out : Below w.heap.size w w57)); clear HO_4; clear HO_5; clear HO_8; clear HO_57; clear HB; have HO_4 := n0_; have HO_5 := n1_; have HO_8 := n2_; have HO_57 := n3_; have HB := n4_; clear n0_ n1_ n2_ n3_ n4_; clear hg hw hp_) | ((with_reducible refine gate_builtin (b := .append) (xs := #[.tmp 84, .tmp 86]) rfl ?_); at_builtin; refine Kd.R_append Kd.string (w0 := w) w.heap.size rfl (.tmp 84) (.tmp 86) 26 9 (.string ⟨#[]⟩) 16 rfl Tryz.underlying26 info9 rfl (by decide) (by omega) (.slice (some ad296) x8_3.length co55) x8_3 t297 [.string t297] (fun _ => True) (fun _ => False) rfl rfl ?aP (fun _ hk => hk.elim) ?aF ?aO ?aB ?aS ?aL ?_; (case aP => exact rfl); (case aB => exact (by repeat (first | (with_reducible first | exact HB.out | apply bA | apply bN | apply bD) | exact HB.out))); (case aF => exact (fun _ _ => trivial)); (case aO => exact (by (with_reducible repeat (first | apply rA | apply rN | apply rD)); exact HO_8.out)); (case aS => exact (below_size (by repeat (first | (with_reducible first | exact HB.out | apply bA | apply bN | apply bD) | exact HB.out)))); (case aL => have := LMc50.out; omega); intro v303 w58 ho hb hg hat; rw [← Ny302.out] at ho; have n0_ := aM (Kd.R_over' (by (with_reducible repeat (first | apply rA | apply rN | apply rD)); exact HO_4.out) (Kd.R_typed (by (with_reducible repeat (first | apply rA | apply rN | apply rD)); exact HO_8.out)) (by decide) hg); have n1_ := aM (Kd.R_over' (by (with_reducible repeat (first | apply rA | apply rN | apply rD)); exact HO_5.out) (Kd.R_typed (by (with_reducible repeat (first | apply rA | apply rN | apply rD)); exact HO_8.out)) (by decide) hg); have n2_ := aM (Kd.R_over' (by (with_reducible repeat (first | apply rA | apply rN | apply rD)); exact HO_57.out) (Kd.R_typed (by (with_reducible repeat (first | apply rA | apply rN | apply rD)); exact HO_8.out)) (by decide) hg); have n3_ := aM (hb); have n4_ := aM (ho); clear HO_4; clear HO_5; clear HO_57; clear HB; clear HO_8; have HO_4 := n0_; have HO_5 := n1_; have HO_57 := n2_; have HB := n3_; have HO304 := n4_; clear n0_ n1_ n2_ n3_ n4_; clear ho hb hg hat))
                             have n0_ := aM (Kd.R_drew HO_4.out)
                             have n1_ := aM (Kd.R_drew HO_5.out)
                             have n2_ := aM (Kd.R_drew HO_57.out)
                             have n3_ := aM (Kd.R_drew HO304.out)
                             have n4_ := aM (below_drew1 HB.out)
                             clear HO_4 HO_5 HO_57 HO304 HB
                             have HO_4 := n0_
                             have HO_5 := n1_
                             have HO_57 := n2_
                             have HO304 := n3_
                             have HB := n4_
                             clear n0_ n1_ n2_ n3_ n4_
                             have p305 : 0 ≤ (t298 : Int) := of_decide_eq_true (by first | (with_reducible assumption) | assumption)
                             have q305 : t298 < (y301.length : Int) := (by have h_ : (t298 : Int) < ((x4_3.length : Int) : Int) := of_decide_eq_true (by first | (with_reducible assumption) | assumption); first | (have e_ := (Kd.R_reads' HO_4.out).1; omega) | simpa only [Ny301.out, List.length_set] using h_)
                             have ql305 : ((t298 : Int) < ((x4_3.length : Int) : Int)) = True := eq_true (of_decide_eq_true (by first | (with_reducible assumption) | assumption))
                             obtain ⟨ad305, e305, hx305_0⟩ := Kd.at_int (Kd.R_reads' HO_4.out).2.2 t298 p305 q305
                             obtain rfl : (⟨go21, 0, none⟩ : Addr) = ad305 := (by injection e305)
                             (first | simp only [add_plain] at hx305_0 | simp only [add_at] at hx305_0 | simp only [Addr.add, Nat.zero_add] at hx305_0 | skip)
                             replace p305 := eq_true p305
                             replace q305 := eq_true q305
                             have p306 : 0 ≤ (t290 : Int) := of_decide_eq_true (by first | (with_reducible assumption) | assumption)
                             have q306 : t290 < (y301.length : Int) := (by have h_ : (t290 : Int) < ((x4_3.length : Int) : Int) := of_decide_eq_true (by first | (with_reducible assumption) | assumption); first | (have e_ := (Kd.R_reads' HO_4.out).1; omega) | simpa only [Ny301.out, List.length_set] using h_)
                             have ql306 : ((t290 : Int) < ((x4_3.length : Int) : Int)) = True := eq_true (of_decide_eq_true (by first | (with_reducible assumption) | assumption))
                             obtain ⟨ad306, e306, hx306_0⟩ := Kd.at_int (Kd.R_reads' HO_4.out).2.2 t290 p306 q306
                             obtain rfl : (⟨go21, 0, none⟩ : Addr) = ad306 := (by injection e306)
                             (first | simp only [add_plain] at hx306_0 | simp only [add_at] at hx306_0 | simp only [Addr.add, Nat.zero_add] at hx306_0 | skip)
                             replace p306 := eq_true p306
                             replace q306 := eq_true q306
                             refine start_ (n := 10) (S := fun w' => w'.cell? ⟨go21, (t298).toNat, none⟩ = some (.int .i64 (rd y301 t298)) ∧ w'.cell? ⟨go21, (t290).toNat, none⟩ = some (.int .i64 (rd y301 t290))) (ds := []) #[F,F,F,F,F,F,F,F,F,F] (by kernel_rfl) rfl rfl ⟨hx305_0, hx306_0⟩ (fun hHeld => ?_); refine with_tabW spec_twFar.tab23 spec_twFar.bits23 (fun HT_ HW_ => ?_)
                             generalize w58.drew = w59 at HO_4 HO_5 HO_57 HO304 HB hx305_0 hx306_0 hHeld ⊢
                             refine pure_ (i := 0) (N := some 88) (v := ?_) (a' := ?_) #[T,F,F,F,F,F,F,F,F,F] rfl rfl (any_of HT_.out (by kernel_rfl)) (fun _ _ _ h => h) (Or.inl ⟨by rfl, ?_⟩) ?_ ?_; rotate_left; (next => intro w'; go_simp; with_reducible rfl); rotate_left; next => simp only [Act.put, sA, sB, sC, i64_w, i32_w]; rfl
                             refine pure_ (i := 1) (N := some 89) (v := ?_) (a' := ?_) #[T,T,F,F,F,F,F,F,F,F] rfl rfl (any_of HT_.out (by kernel_rfl)) (fun _ _ _ h => h) (Or.inl ⟨by rfl, ?_⟩) ?_ ?_; rotate_left; (next => intro w'; go_simp; with_reducible rfl); rotate_left; next => simp only [Act.put, sA, sB, sC, i64_w, i32_w]; rfl
                             refine pure_ (i := 2) (N := some 90) (v := ?_) (a' := ?_) #[T,T,T,F,F,F,F,F,F,F] rfl rfl (any_of HT_.out (by kernel_rfl)) (fun _ _ _ h => h) (Or.inl ⟨by rfl, ?_⟩) ?_ ?_; rotate_left; (next => intro w'; go_simp; with_reducible rfl); rotate_left; next => simp only [Act.put, sA, sB, sC, i64_w, i32_w]; rfl
                             refine pure_ (i := 4) (N := some 92) (v := ?_) (a' := ?_) #[T,T,T,F,T,F,F,F,F,F] rfl rfl (any_of HT_.out (by kernel_rfl)) (fun _ _ _ h => h) (Or.inl ⟨by rfl, ?_⟩) ?_ ?_; rotate_left; (next => intro w'; go_simp; with_reducible rfl); rotate_left; next => simp only [Act.put, sA, sB, sC, i64_w, i32_w]; rfl
                             refine pure_ (i := 5) (N := some 93) (v := ?_) (a' := ?_) #[T,T,T,F,T,T,F,F,F,F] rfl rfl (any_of HT_.out (by kernel_rfl)) (fun _ _ _ h => h) (Or.inl ⟨by rfl, ?_⟩) ?_ ?_; rotate_left; (next => intro w'; go_simp; with_reducible rfl); rotate_left; next => simp only [Act.put, sA, sB, sC, i64_w, i32_w]; rfl
                             refine pure_ (i := 6) (N := some 94) (v := ?_) (a' := ?_) #[T,T,T,F,T,T,T,F,F,F] rfl rfl (any_of HT_.out (by kernel_rfl)) (fun _ _ _ h => h) (Or.inl ⟨by rfl, ?_⟩) ?_ ?_; rotate_left; (next => intro w'; go_simp; with_reducible rfl); rotate_left; next => simp only [Act.put, sA, sB, sC, i64_w, i32_w]; rfl
                             refine take_ (i := 3) (N := some 91) (v := ?_) (a' := ?_) #[T,T,T,T,T,T,T,F,F,F] rfl rfl (take_ofW HT_.out HW_.out (by kernel_rfl)) (fun _ _ _ h => h) (Or.inl ⟨by rfl, ?_⟩) hHeld ?_ ?_
                             rotate_left
                             ·rintro w' ⟨s0, s1⟩
                              go_simp
                              with_reducible rfl
                             rotate_left
                             ·simp only [Act.put, sA, sB, sC, i64_w, i32_w]
                              rfl
                             refine take_ (i := 7) (N := some 95) (v := ?_) (a' := ?_) #[T,T,T,T,T,T,T,T,F,F] rfl rfl (take_ofW HT_.out HW_.out (by kernel_rfl)) (fun _ _ _ h => h) (Or.inl ⟨by rfl, ?_⟩) hHeld ?_ ?_
                             rotate_left
                             ·rintro w' ⟨s0, s1⟩
                              go_simp
                              with_reducible rfl
                             rotate_left
                             ·simp only [Act.put, sA, sB, sC, i64_w, i32_w]
                              rfl
                             refine pure_ (i := 8) (N := some 96) (v := ?_) (a' := ?_) #[T,T,T,T,T,T,T,T,T,F] rfl rfl (any_of HT_.out (by kernel_rfl)) (fun _ _ _ h => h) (Or.inl ⟨by rfl, ?_⟩) ?_ ?_; rotate_left; (next => intro w'; go_simp; with_reducible rfl); rotate_left; next => simp only [Act.put, sA, sB, sC, i64_w, i32_w]; rfl
                             refine pure_ (i := 9) (N := some 97) (v := ?_) (a' := ?_) #[T,T,T,T,T,T,T,T,T,T] rfl rfl (any_of HT_.out (by kernel_rfl)) (fun _ _ _ h => h) (Or.inl ⟨by rfl, ?_⟩) ?_ ?_; rotate_left; (next => intro w'; go_simp; with_reducible rfl); rotate_left; next => simp only [Act.put, sA, sB, sC, i64_w, i32_w]; rfl
                             refine done_ (done_of HT_.out (by kernel_rfl)) ?_
                             try go_wp2
                             have n0_ := aM (Kd.R_drew HO_4.out)
                             have n1_ := aM (Kd.R_drew HO_5.out)
                             have n2_ := aM (Kd.R_drew HO_57.out)
                             have n3_ := aM (Kd.R_drew HO304.out)
                             have n4_ := aM (below_drew1 HB.out)
                             clear HO_4 HO_5 HO_57 HO304 HB
                             have HO_4 := n0_
                             have HO_5 := n1_
                             have HO_57 := n2_
                             have HO304 := n3_
                             have HB := n4_
                             clear n0_ n1_ n2_ n3_ n4_
                             have p307 : 0 ≤ (t298 : Int) := of_decide_eq_true (by first | (with_reducible assumption) | assumption)
                             have q307 : t298 < (x5_3.length : Int) := of_decide_eq_true (by first | (with_reducible assumption) | assumption)
                             obtain ⟨ad307, e307, hx307_0⟩ := Kd.at_int (Kd.R_reads' HO_5.out).2.2 t298 p307 q307
                             obtain rfl : (⟨go23, 0, none⟩ : Addr) = ad307 := (by injection e307)
                             (first | simp only [add_plain] at hx307_0 | simp only [add_at] at hx307_0 | simp only [Addr.add, Nat.zero_add] at hx307_0 | skip)
                             replace p307 := eq_true p307
                             replace q307 := eq_true q307
                             have p308 : 0 ≤ (t290 : Int) := of_decide_eq_true (by first | (with_reducible assumption) | assumption)
                             have q308 : t290 < (x5_3.length : Int) := of_decide_eq_true (by first | (with_reducible assumption) | assumption)
                             obtain ⟨ad308, e308, hx308_0⟩ := Kd.at_int (Kd.R_reads' HO_5.out).2.2 t290 p308 q308
                             obtain rfl : (⟨go23, 0, none⟩ : Addr) = ad308 := (by injection e308)
                             (first | simp only [add_plain] at hx308_0 | simp only [add_at] at hx308_0 | simp only [Addr.add, Nat.zero_add] at hx308_0 | skip)
                             replace p308 := eq_true p308
                             replace q308 := eq_true q308
                             have p54 : 0 ≤ (t298 : Int) := of_decide_eq_true (by first | (with_reducible assumption) | assumption)
                             have q54 : (t298 : Int) < ((x5_3.length : Int) : Int) := of_decide_eq_true (by first | (with_reducible assumption) | assumption)
                             obtain ⟨hx54_0, hf54_0⟩ := Kd.R_celln 0 HO_5.out (t298 : Int) p54 q54
                             replace p54 := eq_true p54
                             replace q54 := eq_true q54
                             have HP61 := Kd.R_putn HO_5.out (t298 : Int) (wrap64 ((rd x5_3 t298) + (rd x5_3 t290)))
                             rw [← Ny309.out] at HP61
                             have HQ61 := aM HP61
                             clear HP61
                             refine start_ (n := 11) (S := fun w' => w'.cell? ⟨go23, (t298).toNat, none⟩ = some (.int .i64 (rd x5_3 t298)) ∧ w'.cell? ⟨go23, (t290).toNat, none⟩ = some (.int .i64 (rd x5_3 t290))) (ds := [10]) #[F,F,F,F,F,F,F,F,F,F,F] (by kernel_rfl) rfl rfl ⟨hx307_0, hx308_0⟩ (fun hHeld => ?_); refine with_tabW spec_twFar.tab24 spec_twFar.bits24 (fun HT_ HW_ => ?_)
                             generalize w59.drew = w60 at HO_4 HO_5 HO_57 HO304 HB HQ61 hf54_0 hx307_0 hx308_0 hx54_0 hHeld ⊢
                             refine pure_ (i := 0) (N := some 98) (v := ?_) (a' := ?_) #[T,F,F,F,F,F,F,F,F,F,F] rfl rfl (any_of HT_.out (by kernel_rfl)) (fun _ _ _ h => h) (Or.inl ⟨by rfl, ?_⟩) ?_ ?_; rotate_left; (next => intro w'; go_simp; with_reducible rfl); rotate_left; next => simp only [Act.put, sA, sB, sC, i64_w, i32_w]; rfl
                             refine pure_ (i := 1) (N := some 99) (v := ?_) (a' := ?_) #[T,T,F,F,F,F,F,F,F,F,F] rfl rfl (any_of HT_.out (by kernel_rfl)) (fun _ _ _ h => h) (Or.inl ⟨by rfl, ?_⟩) ?_ ?_; rotate_left; (next => intro w'; go_simp; with_reducible rfl); rotate_left; next => simp only [Act.put, sA, sB, sC, i64_w, i32_w]; rfl
                             refine pure_ (i := 2) (N := some 100) (v := ?_) (a' := ?_) #[T,T,T,F,F,F,F,F,F,F,F] rfl rfl (any_of HT_.out (by kernel_rfl)) (fun _ _ _ h => h) (Or.inl ⟨by rfl, ?_⟩) ?_ ?_; rotate_left; (next => intro w'; go_simp; with_reducible rfl); rotate_left; next => simp only [Act.put, sA, sB, sC, i64_w, i32_w]; rfl
                             refine pure_ (i := 4) (N := some 102) (v := ?_) (a' := ?_) #[T,T,T,F,T,F,F,F,F,F,F] rfl rfl (any_of HT_.out (by kernel_rfl)) (fun _ _ _ h => h) (Or.inl ⟨by rfl, ?_⟩) ?_ ?_; rotate_left; (next => intro w'; go_simp; with_reducible rfl); rotate_left; next => simp only [Act.put, sA, sB, sC, i64_w, i32_w]; rfl
                             refine pure_ (i := 5) (N := some 103) (v := ?_) (a' := ?_) #[T,T,T,F,T,T,F,F,F,F,F] rfl rfl (any_of HT_.out (by kernel_rfl)) (fun _ _ _ h => h) (Or.inl ⟨by rfl, ?_⟩) ?_ ?_; rotate_left; (next => intro w'; go_simp; with_reducible rfl); rotate_left; next => simp only [Act.put, sA, sB, sC, i64_w, i32_w]; rfl
                             refine pure_ (i := 6) (N := some 104) (v := ?_) (a' := ?_) #[T,T,T,F,T,T,T,F,F,F,F] rfl rfl (any_of HT_.out (by kernel_rfl)) (fun _ _ _ h => h) (Or.inl ⟨by rfl, ?_⟩) ?_ ?_; rotate_left; (next => intro w'; go_simp; with_reducible rfl); rotate_left; next => simp only [Act.put, sA, sB, sC, i64_w, i32_w]; rfl
                             refine take_ (i := 3) (N := some 101) (v := ?_) (a' := ?_) #[T,T,T,T,T,T,T,F,F,F,F] rfl rfl (take_ofW HT_.out HW_.out (by kernel_rfl)) (fun _ _ _ h => h) (Or.inl ⟨by rfl, ?_⟩) hHeld ?_ ?_
                             rotate_left
                             ·rintro w' ⟨s0, s1⟩
                              go_simp
                              with_reducible rfl
                             rotate_left
                             ·simp only [Act.put, sA, sB, sC, i64_w, i32_w]
                              rfl
                             refine take_ (i := 7) (N := some 105) (v := ?_) (a' := ?_) #[T,T,T,T,T,T,T,T,F,F,F] rfl rfl (take_ofW HT_.out HW_.out (by kernel_rfl)) (fun _ _ _ h => h) (Or.inl ⟨by rfl, ?_⟩) hHeld ?_ ?_
                             rotate_left
                             ·rintro w' ⟨s0, s1⟩
                              go_simp
                              with_reducible rfl
                             rotate_left
                             ·simp only [Act.put, sA, sB, sC, i64_w, i32_w]
                              rfl
                             refine pure_ (i := 8) (N := some 106) (v := ?_) (a' := ?_) #[T,T,T,T,T,T,T,T,T,F,F] rfl rfl (any_of HT_.out (by kernel_rfl)) (fun _ _ _ h => h) (Or.inl ⟨by rfl, ?_⟩) ?_ ?_; rotate_left; (next => intro w'; go_simp; with_reducible rfl); rotate_left; next => simp only [Act.put, sA, sB, sC, i64_w, i32_w]; rfl
                             refine pure_ (i := 9) (N := some 107) (v := ?_) (a' := ?_) #[T,T,T,T,T,T,T,T,T,T,F] rfl rfl (any_of HT_.out (by kernel_rfl)) (fun _ _ _ h => h) (Or.inl ⟨by rfl, ?_⟩) ?_ ?_; rotate_left; (next => intro w'; go_simp; with_reducible rfl); rotate_left; next => simp only [Act.put, sA, sB, sC, i64_w, i32_w]; rfl
                             refine last_ (i := 10) (N := none) #[T,T,T,T,T,T,T,T,T,T,T] rfl rfl (one_of HT_.out (by kernel_rfl)) (by decide) (fun K hK => ?_)
                             refine skip_ (w1 := ?_) (by rfl) rfl ?_ ?_
                             rotate_left
                             ·go_simp
                              rfl
                             refine hK.out _ _ ?_
                             clear hK K
                             refine done_ (done_of HT_.out (by kernel_rfl)) ?_
                             try go_wp2
                             (try simp only [← hl4_3, ← hl5_3])
                             go_roundg k3
                             case measure => have := HK1.out; have := HK2.out; have := HK3.out; omega
                             case rel => exact ⟨(y301), (y309), (y302), (wrap64 (x59_3 + 1)), (by first | rfl | (simp; done) | (simp [*]; done)), H', ⟨by have := HK1.out; have := HK2.out; have := HK3.out; omega⟩, ⟨by (try simp only [hl4_1]); (try simp only [hl4_2]); (try simp only [hl5_2]); (try simp only [hl4_3]); (try simp only [hl5_3]); (with_reducible repeat (first | apply rA | apply rN | apply rD)); exact Kd.R_mono (Kd.R_far (p := ⟨go23, (t298 : Int).toNat, none⟩) (Kd.R_mono HO_4.out (fun k_ hk => (⟨hk, fun e_ => hk.1 (by rw [e_]; rfl)⟩ : _ ∧ k_ ≠ go23))) (fun _ hk => hk.2) (.int .i64 (wrap64 ((rd x5_3 t298) + (rd x5_3 t290))))) (fun _ hk => ⟨hk.1.1, hk.1.2⟩)⟩, ⟨by (try simp only [hl4_1]); (try simp only [hl4_2]); (try simp only [hl5_2]); (try simp only [hl4_3]); (try simp only [hl5_3]); (with_reducible repeat (first | apply rA | apply rN | apply rD)); exact Kd.R_mono HQ61.out (fun _ hk => ⟨hk.2, hk.1⟩)⟩, ⟨by (try simp only [hl4_1]); (try simp only [hl4_2]); (try simp only [hl5_2]); (try simp only [hl4_3]); (try simp only [hl5_3]); (with_reducible repeat (first | apply rA | apply rN | apply rD)); exact Kd.R_mono (Kd.R_far (p := ⟨go23, (t298 : Int).toNat, none⟩) (Kd.R_types (t := 3) HO304.out (by first | exact GG23.out | exact (Kd.R_typed HO_5.out _ rfl).choose_spec) (by decide)) (fun _ hk => hk.2) (.int .i64 (wrap64 ((rd x5_3 t298) + (rd x5_3 t290))))) (fun _ hk => trivial)⟩, ⟨by (try simp only [hl4_1]); (try simp only [hl4_2]); (try simp only [hl5_2]); (try simp only [hl4_3]); (try simp only [hl5_3]); (with_reducible repeat (first | apply rA | apply rN | apply rD)); exact Kd.R_mono (Kd.R_far (p := ⟨go23, (t298 : Int).toNat, none⟩) (Kd.R_mono HO_57.out (fun k_ hk => (⟨hk, fun e_ => hk.1 (by rw [e_]; rfl)⟩ : _ ∧ k_ ≠ go23))) (fun _ hk => hk.2) (.int .i64 (wrap64 ((rd x5_3 t298) + (rd x5_3 t290))))) (fun _ hk => ⟨hk.1.2, hk.1.1⟩)⟩, ⟨by repeat (first | (with_reducible first | exact HB.out | apply bA | apply bN | apply bD | refine bS ?_ GB23.out) | exact HB.out)⟩⟩
                            ·rw [if_neg c53] at H
                             exact absurd H (by simp)
                           ·rw [if_neg c52] at H
                            exact absurd H (by simp)
                          ·rw [if_neg c51] at H
                           have c51b0 : ((rd y301 t298) == (wrap64 ((rd y301 t290) + 1))) = false := beq_eq_false_iff_ne.mpr c51
                           have c51b1 : ((rd y301 t298) != (wrap64 ((rd y301 t290) + 1))) = true := bne_iff_ne.mpr c51
                           have H' := aM H
                           clear H
                           have p295 : 0 ≤ (x59_3 : Int) := of_decide_eq_true (by first | (with_reducible assumption) | assumption)
                           have q295 : x59_3 < (t292.length : Int) := of_decide_eq_true (by first | (with_reducible assumption) | assumption)
                           obtain ⟨ad295, e295, hx295_0⟩ := Kd.at_int (Kd.R_reads' HO_57.out).2.2 x59_3 p295 q295
                           cases e295
                           replace p295 := eq_true p295
                           replace q295 := eq_true q295
                           obtain ⟨Ao62, co62, eo62⟩ := Kd.R_slice HO_8.out
                           subst eo62
                           have p296 : 0 ≤ (x9_2 : Int) := of_decide_eq_true (by first | (with_reducible assumption) | assumption)
                           have q296 : x9_2 < (x8_3.length : Int) := of_decide_eq_true (by first | (with_reducible assumption) | assumption)
                           obtain ⟨ad296, e296, hx296_0⟩ := Kd.at_string (Kd.R_reads' HO_8.out).2.2 x9_2 p296 q296
                           cases e296
                           replace p296 := eq_true p296
                           replace q296 := eq_true q296
                           try go_wp2_with (first | ((with_reducible refine gate_callee (f := 54) rfl ?_); refine goesL_ (some 68) rfl rfl Tryz.func54 (by kernel_rfl) rfl #[.string (rdOf ByteArray.empty x8_3 x9_2), .int .i64 (rd t292 x59_3)] rfl (by (try simp only [List.map_toArray, List.map_cons, List.map_nil]); first | done | rfl | (simp only [List.length_drop, List.length_take]; rfl)) ?_; (with_reducible refine (spec_twMake.calls (rdOf ByteArray.empty x8_3 x9_2) (rd t292 x59_3) t297 _ A42.out).mono ?_); rintro e w' ⟨rfl, ⟨nd, rfl⟩⟩; refine ⟨_, rfl, ?_⟩; (try (rw [drewN_self wr]; generalize hq_ : World.drewN wr _ = wr; have n0_ : Aside0 (Kd.R (Kd.int .i64) 3 wr w.heap.size (fun k_ => some k_ ≠ (.slice (some ⟨go23, 0, none⟩) x5_3.length co23 : Value).ownBlock ∧ some k_ ≠ (.slice (some ad295) t292.length co36 : Value).ownBlock) (.slice (some ⟨go21, 0, none⟩) x4_3.length co11) x4_3) := ⟨by rw [← hq_]; exact (by (with_reducible repeat (first | apply rA | apply rN | apply rD)); exact HO_4.out)⟩; have n1_ : Aside0 (Kd.R (Kd.int .i64) 3 wr w.heap.size (fun k_ => some k_ ≠ (.slice (some ⟨go21, 0, none⟩) x4_3.length co11 : Value).ownBlock ∧ some k_ ≠ (.slice (some ad295) t292.length co36 : Value).ownBlock) (.slice (some ⟨go23, 0, none⟩) x5_3.length co23) x5_3) := ⟨by rw [← hq_]; exact (by (with_reducible repeat (first | apply rA | apply rN | apply rD)); exact HO_5.out)⟩; have n2_ : Aside0 (Kd.R Kd.string 9 wr w.heap.size (fun _ => True) (.slice (some ad296) x8_3.length co62) x8_3) := ⟨by rw [← hq_]; exact (by (with_reducible repeat (first | apply rA | apply rN | apply rD)); exact HO_8.out)⟩; have n3_ : Aside0 (Kd.R (Kd.int .i64) 3 wr w.heap.size (fun k_ => some k_ ≠ (.slice (some ⟨go21, 0, none⟩) x4_3.length co11 : Value).ownBlock ∧ some k_ ≠ (.slice (some ⟨go23, 0, none⟩) x5_3.length co23 : Value).ownBlock) (.slice (some ad295) t292.length co36) t292) := ⟨by rw [← hq_]; exact (by (with_reducible repeat (first | apply rA | apply rN | apply rD)); exact HO_57.out)⟩; have n4_ : Aside0 (Below w.heap.size w wr) := ⟨by rw [← hq_]; exact (by repeat (first | (with_reducible first | exact HB.out | apply bA | apply bN | apply bD) | exact HB.out))⟩; clear HO_4 HO_5 HO_8 HO_57 HB hq_; have HO_4 := n0_; have HO_5 := n1_; have HO_8 := n2_; have HO_57 := n3_; have HB := n4_; clear n0_ n1_ n2_ n3_ n4_))) | ((with_reducible refine gate_callee (f := 44) rfl ?_); refine goesL_ (some 70) rfl rfl Tryz.func44 (by kernel_rfl) rfl #[.string t297] rfl (by (try simp only [List.map_toArray, List.map_cons, List.map_nil]); first | done | rfl | (simp only [List.length_drop, List.length_take]; rfl)) ?_; (with_reducible refine (spec_riNumber.calls k3 t297 t298 _ A43.out).mono ?_); rintro e w' ⟨rfl, ⟨nd, rfl⟩⟩; refine ⟨_, rfl, ?_⟩; (try (rw [drewN_self wr]; generalize hq_ : World.drewN wr _ = wr; have n0_ : Aside0 (Kd.R (Kd.int .i64) 3 wr w.heap.size (fun k_ => some k_ ≠ (.slice (some ⟨go23, 0, none⟩) x5_3.length co23 : Value).ownBlock ∧ some k_ ≠ (.slice (some ad295) t292.length co36 : Value).ownBlock) (.slice (some ⟨go21, 0, none⟩) x4_3.length co11) x4_3) := ⟨by rw [← hq_]; exact (by (with_reducible repeat (first | apply rA | apply rN | apply rD)); exact HO_4.out)⟩; have n1_ : Aside0 (Kd.R (Kd.int .i64) 3 wr w.heap.size (fun k_ => some k_ ≠ (.slice (some ⟨go21, 0, none⟩) x4_3.length co11 : Value).ownBlock ∧ some k_ ≠ (.slice (some ad295) t292.length co36 : Value).ownBlock) (.slice (some ⟨go23, 0, none⟩) x5_3.length co23) x5_3) := ⟨by rw [← hq_]; exact (by (with_reducible repeat (first | apply rA | apply rN | apply rD)); exact HO_5.out)⟩; have n2_ : Aside0 (Kd.R Kd.string 9 wr w.heap.size (fun _ => True) (.slice (some ad296) x8_3.length co62) x8_3) := ⟨by rw [← hq_]; exact (by (with_reducible repeat (first | apply rA | apply rN | apply rD)); exact HO_8.out)⟩; have n3_ : Aside0 (Kd.R (Kd.int .i64) 3 wr w.heap.size (fun k_ => some k_ ≠ (.slice (some ⟨go21, 0, none⟩) x4_3.length co11 : Value).ownBlock ∧ some k_ ≠ (.slice (some ⟨go23, 0, none⟩) x5_3.length co23 : Value).ownBlock) (.slice (some ad295) t292.length co36) t292) := ⟨by rw [← hq_]; exact (by (with_reducible repeat (first | apply rA | apply rN | apply rD)); exact HO_57.out)⟩; have n4_ : Aside0 (Below w.heap.size w wr) := ⟨by rw [← hq_]; exact (by repeat (first | (with_reducible first | exact HB.out | apply bA | apply bN | apply bD) | exact HB.out))⟩; clear HO_4 HO_5 HO_8 HO_57 HB hq_; have HO_4 := n0_; have HO_5 := n1_; have HO_8 := n2_; have HO_57 := n3_; have HB := n4_; clear n0_ n1_ n2_ n3_ n4_)); have p299 : 0 ≤ (t298 : Int) := of_decide_eq_true (by first | (with_reducible assumption) | assumption); have q299 : t298 < (x4_3.length : Int) := of_decide_eq_true (by first | (with_reducible assumption) | assumption); obtain ⟨ad299, e299, hx299_0⟩ := Kd.at_int (Kd.R_reads' HO_4.out).2.2 t298 p299 q299; obtain rfl : (⟨go21, 0, none⟩ : Addr) = ad299 := (by injection e299); (first | simp only [add_plain] at hx299_0 | simp only [add_at] at hx299_0 | simp only [Addr.add, Nat.zero_add] at hx299_0 | skip); replace p299 := eq_true p299; replace q299 := eq_true q299; have p300 : 0 ≤ (t290 : Int) := of_decide_eq_true (by first | (with_reducible assumption) | assumption); have q300 : t290 < (x4_3.length : Int) := of_decide_eq_true (by first | (with_reducible assumption) | assumption); obtain ⟨ad300, e300, hx300_0⟩ := Kd.at_int (Kd.R_reads' HO_4.out).2.2 t290 p300 q300; obtain rfl : (⟨go21, 0, none⟩ : Addr) = ad300 := (by injection e300); (first | simp only [add_plain] at hx300_0 | simp only [add_at] at hx300_0 | simp only [Addr.add, Nat.zero_add] at hx300_0 | skip); replace p300 := eq_true p300; replace q300 := eq_true q300; have p49 : 0 ≤ (t298 : Int) := of_decide_eq_true (by first | (with_reducible assumption) | assumption); have q49 : (t298 : Int) < ((x4_3.length : Int) : Int) := of_decide_eq_true (by first | (with_reducible assumption) | assumption); obtain ⟨hx49_0, hf49_0⟩ := Kd.R_celln 0 HO_4.out (t298 : Int) p49 q49; replace p49 := eq_true p49; replace q49 := eq_true q49; obtain ⟨hy63_, hz63_⟩ := Kd.R_celln 0 HO_4.out (t298 : Int) (of_decide_eq_true (by first | (with_reducible assumption) | assumption)) (of_decide_eq_true (by first | (with_reducible assumption) | assumption)); have HP63 := Kd.R_putg HO_4.out (t298 : Int) (wrap64 ((rd x4_3 t290) + 1))) | ((with_reducible refine gate_store (t := 3) (p := 83) rfl ?_); refine store_event (t := 3) (p := 83) (v := ?vo_w64) (w1 := (wr.setCell ⟨go21, (t298 : Int).toNat, none⟩ (.int .i64 (wrap64 ((rd x4_3 t290) + 1))))) ?hg ?ho ?hn ?hr ?_; (case ho => rfl); (case hg => rfl); (case hn => rfl); (case hr => first | (go_simp; done) | (go_simp; rfl)); intro w64 hw; have hg : wr.grownBy w64 (some go21) := (by rw [hw]; exact HP63.2); have hp_ : Kd.R (Kd.int .i64) 3 w64 w.heap.size (fun k_ => some k_ ≠ (.slice (some ⟨go23, 0, none⟩) x5_3.length co23 : Value).ownBlock ∧ some k_ ≠ (.slice (some ad295) t292.length co36 : Value).ownBlock) (.slice (some ⟨go21, 0, none⟩) x4_3.length co11) y301 := (by rw [hw, Ny301.out]; exact HP63.1); clear HP63; have n0_ := aM (hp_); have n1_ := aM (Kd.R_after (v := (.slice (some ⟨go21, 0, none⟩) x4_3.length co11)) (v1 := (.slice (some ⟨go21, 0, none⟩) x4_3.length co11)) (ok := (fun k_ => some k_ ≠ (.slice (some ad295) t292.length co36 : Value).ownBlock)) (by (with_reducible repeat (first | apply rA | apply rN | apply rD)); exact Kd.R_mono HO_5.out (fun _ hk => ⟨hk.2, hk.1⟩)) hg (.inl rfl)); have n2_ := aM (Kd.R_over' (v := (.slice (some ⟨go21, 0, none⟩) x4_3.length co11)) (by (with_reducible repeat (first | apply rA | apply rN | apply rD)); exact HO_8.out) (Kd.R_typed HO_4.out) (by decide) hg); have n3_ := aM (Kd.R_after (v := (.slice (some ⟨go21, 0, none⟩) x4_3.length co11)) (v1 := (.slice (some ⟨go21, 0, none⟩) x4_3.length co11)) (ok := (fun k_ => some k_ ≠ (.slice (some ⟨go23, 0, none⟩) x5_3.length co23 : Value).ownBlock)) (by (with_reducible repeat (first | apply rA | apply rN | apply rD)); exact Kd.R_mono HO_57.out (fun _ hk => ⟨hk.2, hk.1⟩)) hg (.inl rfl)); have n4_ := aM ((by rw [hw]; exact below_set (HB.out) GB21.out : Below w.heap.size w w64)); clear HO_4; clear HO_5; clear HO_8; clear HO_57; clear HB; have HO_4 := n0_; have HO_5 := n1_; have HO_8 := n2_; have HO_57 := n3_; have HB := n4_; clear n0_ n1_ n2_ n3_ n4_; clear hg hw hp_) | ((with_reducible refine gate_builtin (b := .append) (xs := #[.tmp 84, .tmp 86]) rfl ?_); at_builtin; refine Kd.R_append Kd.string (w0 := w) w.heap.size rfl (.tmp 84) (.tmp 86) 26 9 (.string ⟨#[]⟩) 16 rfl Tryz.underlying26 info9 rfl (by decide) (by omega) (.slice (some ad296) x8_3.length co62) x8_3 t297 [.string t297] (fun _ => True) (fun _ => False) rfl rfl ?aP (fun _ hk => hk.elim) ?aF ?aO ?aB ?aS ?aL ?_; (case aP => exact rfl); (case aB => exact (by repeat (first | (with_reducible first | exact HB.out | apply bA | apply bN | apply bD) | exact HB.out))); (case aF => exact (fun _ _ => trivial)); (case aO => exact (by (with_reducible repeat (first | apply rA | apply rN | apply rD)); exact HO_8.out)); (case aS => exact (below_size (by repeat (first | (with_reducible first | exact HB.out | apply bA | apply bN | apply bD) | exact HB.out)))); (case aL => have := LMc50.out; omega); intro v303 w65 ho hb hg hat; rw [← Ny302.out] at ho; have n0_ := aM (Kd.R_over' (by (with_reducible repeat (first | apply rA | apply rN | apply rD)); exact HO_4.out) (Kd.R_typed (by (with_reducible repeat (first | apply rA | apply rN | apply rD)); exact HO_8.out)) (by decide) hg); have n1_ := aM (Kd.R_over' (by (with_reducible repeat (first | apply rA | apply rN | apply rD)); exact HO_5.out) (Kd.R_typed (by (with_reducible repeat (first | apply rA | apply rN | apply rD)); exact HO_8.out)) (by decide) hg); have n2_ := aM (Kd.R_over' (by (with_reducible repeat (first | apply rA | apply rN | apply rD)); exact HO_57.out) (Kd.R_typed (by (with_reducible repeat (first | apply rA | apply rN | apply rD)); exact HO_8.out)) (by decide) hg); have n3_ := aM (hb); have n4_ := aM (ho); clear HO_4; clear HO_5; clear HO_57; clear HB; clear HO_8; have HO_4 := n0_; have HO_5 := n1_; have HO_57 := n2_; have HB := n3_; have HO304 := n4_; clear n0_ n1_ n2_ n3_ n4_; clear ho hb hg hat))
                           have n0_ := aM (Kd.R_drew HO_4.out)
                           have n1_ := aM (Kd.R_drew HO_5.out)
                           have n2_ := aM (Kd.R_drew HO_57.out)
                           have n3_ := aM (Kd.R_drew HO304.out)
                           have n4_ := aM (below_drew1 HB.out)
                           clear HO_4 HO_5 HO_57 HO304 HB
                           have HO_4 := n0_
                           have HO_5 := n1_
                           have HO_57 := n2_
                           have HO304 := n3_
                           have HB := n4_
                           clear n0_ n1_ n2_ n3_ n4_
                           have p305 : 0 ≤ (t298 : Int) := of_decide_eq_true (by first | (with_reducible assumption) | assumption)
                           have q305 : t298 < (y301.length : Int) := (by have h_ : (t298 : Int) < ((x4_3.length : Int) : Int) := of_decide_eq_true (by first | (with_reducible assumption) | assumption); first | (have e_ := (Kd.R_reads' HO_4.out).1; omega) | simpa only [Ny301.out, List.length_set] using h_)
                           have ql305 : ((t298 : Int) < ((x4_3.length : Int) : Int)) = True := eq_true (of_decide_eq_true (by first | (with_reducible assumption) | assumption))
                           obtain ⟨ad305, e305, hx305_0⟩ := Kd.at_int (Kd.R_reads' HO_4.out).2.2 t298 p305 q305
                           obtain rfl : (⟨go21, 0, none⟩ : Addr) = ad305 := (by injection e305)
                           (first | simp only [add_plain] at hx305_0 | simp only [add_at] at hx305_0 | simp only [Addr.add, Nat.zero_add] at hx305_0 | skip)
                           replace p305 := eq_true p305
                           replace q305 := eq_true q305
                           have p306 : 0 ≤ (t290 : Int) := of_decide_eq_true (by first | (with_reducible assumption) | assumption)
                           have q306 : t290 < (y301.length : Int) := (by have h_ : (t290 : Int) < ((x4_3.length : Int) : Int) := of_decide_eq_true (by first | (with_reducible assumption) | assumption); first | (have e_ := (Kd.R_reads' HO_4.out).1; omega) | simpa only [Ny301.out, List.length_set] using h_)
                           have ql306 : ((t290 : Int) < ((x4_3.length : Int) : Int)) = True := eq_true (of_decide_eq_true (by first | (with_reducible assumption) | assumption))
                           obtain ⟨ad306, e306, hx306_0⟩ := Kd.at_int (Kd.R_reads' HO_4.out).2.2 t290 p306 q306
                           obtain rfl : (⟨go21, 0, none⟩ : Addr) = ad306 := (by injection e306)
                           (first | simp only [add_plain] at hx306_0 | simp only [add_at] at hx306_0 | simp only [Addr.add, Nat.zero_add] at hx306_0 | skip)
                           replace p306 := eq_true p306
                           replace q306 := eq_true q306
                           refine start_ (n := 10) (S := fun w' => w'.cell? ⟨go21, (t298).toNat, none⟩ = some (.int .i64 (rd y301 t298)) ∧ w'.cell? ⟨go21, (t290).toNat, none⟩ = some (.int .i64 (rd y301 t290))) (ds := []) #[F,F,F,F,F,F,F,F,F,F] (by kernel_rfl) rfl rfl ⟨hx305_0, hx306_0⟩ (fun hHeld => ?_); refine with_tabW spec_twFar.tab23 spec_twFar.bits23 (fun HT_ HW_ => ?_)
                           generalize w65.drew = w66 at HO_4 HO_5 HO_57 HO304 HB hx305_0 hx306_0 hHeld ⊢
                           refine pure_ (i := 0) (N := some 88) (v := ?_) (a' := ?_) #[T,F,F,F,F,F,F,F,F,F] rfl rfl (any_of HT_.out (by kernel_rfl)) (fun _ _ _ h => h) (Or.inl ⟨by rfl, ?_⟩) ?_ ?_; rotate_left; (next => intro w'; go_simp; with_reducible rfl); rotate_left; next => simp only [Act.put, sA, sB, sC, i64_w, i32_w]; rfl
                           refine pure_ (i := 1) (N := some 89) (v := ?_) (a' := ?_) #[T,T,F,F,F,F,F,F,F,F] rfl rfl (any_of HT_.out (by kernel_rfl)) (fun _ _ _ h => h) (Or.inl ⟨by rfl, ?_⟩) ?_ ?_; rotate_left; (next => intro w'; go_simp; with_reducible rfl); rotate_left; next => simp only [Act.put, sA, sB, sC, i64_w, i32_w]; rfl
                           refine pure_ (i := 2) (N := some 90) (v := ?_) (a' := ?_) #[T,T,T,F,F,F,F,F,F,F] rfl rfl (any_of HT_.out (by kernel_rfl)) (fun _ _ _ h => h) (Or.inl ⟨by rfl, ?_⟩) ?_ ?_; rotate_left; (next => intro w'; go_simp; with_reducible rfl); rotate_left; next => simp only [Act.put, sA, sB, sC, i64_w, i32_w]; rfl
                           refine pure_ (i := 4) (N := some 92) (v := ?_) (a' := ?_) #[T,T,T,F,T,F,F,F,F,F] rfl rfl (any_of HT_.out (by kernel_rfl)) (fun _ _ _ h => h) (Or.inl ⟨by rfl, ?_⟩) ?_ ?_; rotate_left; (next => intro w'; go_simp; with_reducible rfl); rotate_left; next => simp only [Act.put, sA, sB, sC, i64_w, i32_w]; rfl
                           refine pure_ (i := 5) (N := some 93) (v := ?_) (a' := ?_) #[T,T,T,F,T,T,F,F,F,F] rfl rfl (any_of HT_.out (by kernel_rfl)) (fun _ _ _ h => h) (Or.inl ⟨by rfl, ?_⟩) ?_ ?_; rotate_left; (next => intro w'; go_simp; with_reducible rfl); rotate_left; next => simp only [Act.put, sA, sB, sC, i64_w, i32_w]; rfl
                           refine pure_ (i := 6) (N := some 94) (v := ?_) (a' := ?_) #[T,T,T,F,T,T,T,F,F,F] rfl rfl (any_of HT_.out (by kernel_rfl)) (fun _ _ _ h => h) (Or.inl ⟨by rfl, ?_⟩) ?_ ?_; rotate_left; (next => intro w'; go_simp; with_reducible rfl); rotate_left; next => simp only [Act.put, sA, sB, sC, i64_w, i32_w]; rfl
                           refine take_ (i := 3) (N := some 91) (v := ?_) (a' := ?_) #[T,T,T,T,T,T,T,F,F,F] rfl rfl (take_ofW HT_.out HW_.out (by kernel_rfl)) (fun _ _ _ h => h) (Or.inl ⟨by rfl, ?_⟩) hHeld ?_ ?_
                           rotate_left
                           ·rintro w' ⟨s0, s1⟩
                            go_simp
                            with_reducible rfl
                           rotate_left
                           ·simp only [Act.put, sA, sB, sC, i64_w, i32_w]
                            rfl
                           refine take_ (i := 7) (N := some 95) (v := ?_) (a' := ?_) #[T,T,T,T,T,T,T,T,F,F] rfl rfl (take_ofW HT_.out HW_.out (by kernel_rfl)) (fun _ _ _ h => h) (Or.inl ⟨by rfl, ?_⟩) hHeld ?_ ?_
                           rotate_left
                           ·rintro w' ⟨s0, s1⟩
                            go_simp
                            with_reducible rfl
                           rotate_left
                           ·simp only [Act.put, sA, sB, sC, i64_w, i32_w]
                            rfl
                           refine pure_ (i := 8) (N := some 96) (v := ?_) (a' := ?_) #[T,T,T,T,T,T,T,T,T,F] rfl rfl (any_of HT_.out (by kernel_rfl)) (fun _ _ _ h => h) (Or.inl ⟨by rfl, ?_⟩) ?_ ?_; rotate_left; (next => intro w'; go_simp; with_reducible rfl); rotate_left; next => simp only [Act.put, sA, sB, sC, i64_w, i32_w]; rfl
                           refine pure_ (i := 9) (N := some 97) (v := ?_) (a' := ?_) #[T,T,T,T,T,T,T,T,T,T] rfl rfl (any_of HT_.out (by kernel_rfl)) (fun _ _ _ h => h) (Or.inl ⟨by rfl, ?_⟩) ?_ ?_; rotate_left; (next => intro w'; go_simp; with_reducible rfl); rotate_left; next => simp only [Act.put, sA, sB, sC, i64_w, i32_w]; rfl
                           refine done_ (done_of HT_.out (by kernel_rfl)) ?_
                           try go_wp2
                           (try simp only [← hl4_3, ← hl5_3])
                           go_roundg k3
                           case measure => have := HK1.out; have := HK2.out; have := HK3.out; omega
                           case rel => exact ⟨(y301), (x5_3), (y302), (wrap64 (x59_3 + 1)), (by first | rfl | (simp; done) | (simp [*]; done)), H', ⟨by have := HK1.out; have := HK2.out; have := HK3.out; omega⟩, ⟨by (try simp only [hl4_1]); (try simp only [hl4_2]); (try simp only [hl5_2]); (try simp only [hl4_3]); (try simp only [hl5_3]); (with_reducible repeat (first | apply rA | apply rN | apply rD)); exact HO_4.out⟩, ⟨by (try simp only [hl4_1]); (try simp only [hl4_2]); (try simp only [hl5_2]); (try simp only [hl4_3]); (try simp only [hl5_3]); (with_reducible repeat (first | apply rA | apply rN | apply rD)); exact Kd.R_mono HO_5.out (fun _ hk => ⟨hk.2, hk.1⟩)⟩, ⟨by (try simp only [hl4_1]); (try simp only [hl4_2]); (try simp only [hl5_2]); (try simp only [hl4_3]); (try simp only [hl5_3]); (with_reducible repeat (first | apply rA | apply rN | apply rD)); exact HO304.out⟩, ⟨by (try simp only [hl4_1]); (try simp only [hl4_2]); (try simp only [hl5_2]); (try simp only [hl4_3]); (try simp only [hl5_3]); (with_reducible repeat (first | apply rA | apply rN | apply rD)); exact Kd.R_mono HO_57.out (fun _ hk => ⟨hk.2, hk.1⟩)⟩, ⟨by repeat (first | (with_reducible first | exact HB.out | apply bA | apply bN | apply bD) | exact HB.out)⟩⟩
                         ·rw [if_neg c50] at H
                          exact absurd H (by simp)
                        ·rw [if_neg c48] at H
                         exact absurd H (by simp)
                       ·rw [if_neg c47] at H
                        exact absurd H (by simp)
                      ·rw [if_neg c46] at H
                       have c46b0 : decide ((rd x4_3 t298) < 0) = false := decide_eq_false c46
                       clear c46
                       by_cases c67 : 0 ≤ t290
                       ·rw [if_pos c67] at H
                        have c67b0 : decide (0 ≤ t290) = true := decide_eq_true c67
                        clear c67
                        by_cases c68 : t290 < (x4_3.length : Int)
                        ·rw [if_pos c68] at H
                         have c68b0 : decide (t290 < (x4_3.length : Int)) = true := decide_eq_true c68
                         (try (have c68m0 := c68b0; simp only [hl4_1] at c68m0)); (try (have c68m1 := c68b0; simp only [hl4_2] at c68m1)); (try (have c68m2 := c68b0; simp only [hl5_2] at c68m2)); (try (have c68m3 := c68b0; simp only [hl4_3] at c68m3)); (try (have c68m4 := c68b0; simp only [hl5_3] at c68m4))
                         clear c68
                         by_cases c69 : (rd x4_3 t298) = (wrap64 ((rd x4_3 t290) + 1))
                         ·rw [if_pos c69] at H
                          have c69b0 : ((rd x4_3 t298) == (wrap64 ((rd x4_3 t290) + 1))) = true := beq_iff_eq.mpr c69
                          have c69b1 : ((rd x4_3 t298) != (wrap64 ((rd x4_3 t290) + 1))) = false := bne_eq_false_iff_eq.mpr c69
                          clear c69
                          by_cases c70 : t298 < (x5_3.length : Int)
                          ·rw [if_pos c70] at H
                           have c70b0 : decide (t298 < (x5_3.length : Int)) = true := decide_eq_true c70
                           (try (have c70m0 := c70b0; simp only [hl4_1] at c70m0)); (try (have c70m1 := c70b0; simp only [hl4_2] at c70m1)); (try (have c70m2 := c70b0; simp only [hl5_2] at c70m2)); (try (have c70m3 := c70b0; simp only [hl4_3] at c70m3)); (try (have c70m4 := c70b0; simp only [hl5_3] at c70m4))
                           clear c70
                           by_cases c71 : t290 < (x5_3.length : Int)
                           ·rw [if_pos c71] at H
                            have c71b0 : decide (t290 < (x5_3.length : Int)) = true := decide_eq_true c71
                            (try (have c71m0 := c71b0; simp only [hl4_1] at c71m0)); (try (have c71m1 := c71b0; simp only [hl4_2] at c71m1)); (try (have c71m2 := c71b0; simp only [hl5_2] at c71m2)); (try (have c71m3 := c71b0; simp only [hl4_3] at c71m3)); (try (have c71m4 := c71b0; simp only [hl5_3] at c71m4))
                            clear c71
                            obtain ⟨y314, hy314⟩ : ∃ y_ : List Int, y_ = (x5_3.set (t298 : Int).toNat (wrap64 ((rd x5_3 t298) + (rd x5_3 t290)))) := ⟨_, rfl⟩
                            replace H : (spec_twFar.l2 k3 x4_3 y314 x8_3 x9_2 t290 t292 (t292.length : Int) (wrap64 (x59_3 + 1))) = some (r1, r2) := by first | (rw [hy314]; with_reducible exact H) | (have H2_ := (Option.bind_some _ _).symm.trans H; rw [hy314]; with_reducible exact H2_) | (have H2_ := (Option.bind_some _ _).symm.trans H; with_reducible exact H2_) | with_reducible exact H | (rw [hy314]; exact H) | exact H
                            have Ny314 := aM hy314
                            clear hy314
                            have H' := aM H
                            clear H
                            have p295 : 0 ≤ (x59_3 : Int) := of_decide_eq_true (by first | (with_reducible assumption) | assumption)
                            have q295 : x59_3 < (t292.length : Int) := of_decide_eq_true (by first | (with_reducible assumption) | assumption)
                            obtain ⟨ad295, e295, hx295_0⟩ := Kd.at_int (Kd.R_reads' HO_57.out).2.2 x59_3 p295 q295
                            cases e295
                            replace p295 := eq_true p295
                            replace q295 := eq_true q295
                            obtain ⟨Ao73, co73, eo73⟩ := Kd.R_slice HO_8.out
                            subst eo73
                            have p296 : 0 ≤ (x9_2 : Int) := of_decide_eq_true (by first | (with_reducible assumption) | assumption)
                            have q296 : x9_2 < (x8_3.length : Int) := of_decide_eq_true (by first | (with_reducible assumption) | assumption)
                            obtain ⟨ad296, e296, hx296_0⟩ := Kd.at_string (Kd.R_reads' HO_8.out).2.2 x9_2 p296 q296
                            cases e296
                            replace p296 := eq_true p296
                            replace q296 := eq_true q296
                            try go_wp2_with (first | ((with_reducible refine gate_callee (f := 54) rfl ?_); refine goesL_ (some 68) rfl rfl Tryz.func54 (by kernel_rfl) rfl #[.string (rdOf ByteArray.empty x8_3 x9_2), .int .i64 (rd t292 x59_3)] rfl (by (try simp only [List.map_toArray, List.map_cons, List.map_nil]); first | done | rfl | (simp only [List.length_drop, List.length_take]; rfl)) ?_; (with_reducible refine (spec_twMake.calls (rdOf ByteArray.empty x8_3 x9_2) (rd t292 x59_3) t297 _ A42.out).mono ?_); rintro e w' ⟨rfl, ⟨nd, rfl⟩⟩; refine ⟨_, rfl, ?_⟩; (try (rw [drewN_self wr]; generalize hq_ : World.drewN wr _ = wr; have n0_ : Aside0 (Kd.R (Kd.int .i64) 3 wr w.heap.size (fun k_ => some k_ ≠ (.slice (some ⟨go23, 0, none⟩) x5_3.length co23 : Value).ownBlock ∧ some k_ ≠ (.slice (some ad295) t292.length co36 : Value).ownBlock) (.slice (some ⟨go21, 0, none⟩) x4_3.length co11) x4_3) := ⟨by rw [← hq_]; exact (by (with_reducible repeat (first | apply rA | apply rN | apply rD)); exact HO_4.out)⟩; have n1_ : Aside0 (Kd.R (Kd.int .i64) 3 wr w.heap.size (fun k_ => some k_ ≠ (.slice (some ⟨go21, 0, none⟩) x4_3.length co11 : Value).ownBlock ∧ some k_ ≠ (.slice (some ad295) t292.length co36 : Value).ownBlock) (.slice (some ⟨go23, 0, none⟩) x5_3.length co23) x5_3) := ⟨by rw [← hq_]; exact (by (with_reducible repeat (first | apply rA | apply rN | apply rD)); exact HO_5.out)⟩; have n2_ : Aside0 (Kd.R Kd.string 9 wr w.heap.size (fun _ => True) (.slice (some ad296) x8_3.length co73) x8_3) := ⟨by rw [← hq_]; exact (by (with_reducible repeat (first | apply rA | apply rN | apply rD)); exact HO_8.out)⟩; have n3_ : Aside0 (Kd.R (Kd.int .i64) 3 wr w.heap.size (fun k_ => some k_ ≠ (.slice (some ⟨go21, 0, none⟩) x4_3.length co11 : Value).ownBlock ∧ some k_ ≠ (.slice (some ⟨go23, 0, none⟩) x5_3.length co23 : Value).ownBlock) (.slice (some ad295) t292.length co36) t292) := ⟨by rw [← hq_]; exact (by (with_reducible repeat (first | apply rA | apply rN | apply rD)); exact HO_57.out)⟩; have n4_ : Aside0 (Below w.heap.size w wr) := ⟨by rw [← hq_]; exact (by repeat (first | (with_reducible first | exact HB.out | apply bA | apply bN | apply bD) | exact HB.out))⟩; clear HO_4 HO_5 HO_8 HO_57 HB hq_; have HO_4 := n0_; have HO_5 := n1_; have HO_8 := n2_; have HO_57 := n3_; have HB := n4_; clear n0_ n1_ n2_ n3_ n4_))) | ((with_reducible refine gate_callee (f := 44) rfl ?_); refine goesL_ (some 70) rfl rfl Tryz.func44 (by kernel_rfl) rfl #[.string t297] rfl (by (try simp only [List.map_toArray, List.map_cons, List.map_nil]); first | done | rfl | (simp only [List.length_drop, List.length_take]; rfl)) ?_; (with_reducible refine (spec_riNumber.calls k3 t297 t298 _ A43.out).mono ?_); rintro e w' ⟨rfl, ⟨nd, rfl⟩⟩; refine ⟨_, rfl, ?_⟩; (try (rw [drewN_self wr]; generalize hq_ : World.drewN wr _ = wr; have n0_ : Aside0 (Kd.R (Kd.int .i64) 3 wr w.heap.size (fun k_ => some k_ ≠ (.slice (some ⟨go23, 0, none⟩) x5_3.length co23 : Value).ownBlock ∧ some k_ ≠ (.slice (some ad295) t292.length co36 : Value).ownBlock) (.slice (some ⟨go21, 0, none⟩) x4_3.length co11) x4_3) := ⟨by rw [← hq_]; exact (by (with_reducible repeat (first | apply rA | apply rN | apply rD)); exact HO_4.out)⟩; have n1_ : Aside0 (Kd.R (Kd.int .i64) 3 wr w.heap.size (fun k_ => some k_ ≠ (.slice (some ⟨go21, 0, none⟩) x4_3.length co11 : Value).ownBlock ∧ some k_ ≠ (.slice (some ad295) t292.length co36 : Value).ownBlock) (.slice (some ⟨go23, 0, none⟩) x5_3.length co23) x5_3) := ⟨by rw [← hq_]; exact (by (with_reducible repeat (first | apply rA | apply rN | apply rD)); exact HO_5.out)⟩; have n2_ : Aside0 (Kd.R Kd.string 9 wr w.heap.size (fun _ => True) (.slice (some ad296) x8_3.length co73) x8_3) := ⟨by rw [← hq_]; exact (by (with_reducible repeat (first | apply rA | apply rN | apply rD)); exact HO_8.out)⟩; have n3_ : Aside0 (Kd.R (Kd.int .i64) 3 wr w.heap.size (fun k_ => some k_ ≠ (.slice (some ⟨go21, 0, none⟩) x4_3.length co11 : Value).ownBlock ∧ some k_ ≠ (.slice (some ⟨go23, 0, none⟩) x5_3.length co23 : Value).ownBlock) (.slice (some ad295) t292.length co36) t292) := ⟨by rw [← hq_]; exact (by (with_reducible repeat (first | apply rA | apply rN | apply rD)); exact HO_57.out)⟩; have n4_ : Aside0 (Below w.heap.size w wr) := ⟨by rw [← hq_]; exact (by repeat (first | (with_reducible first | exact HB.out | apply bA | apply bN | apply bD) | exact HB.out))⟩; clear HO_4 HO_5 HO_8 HO_57 HB hq_; have HO_4 := n0_; have HO_5 := n1_; have HO_8 := n2_; have HO_57 := n3_; have HB := n4_; clear n0_ n1_ n2_ n3_ n4_)); have p299 : 0 ≤ (t298 : Int) := of_decide_eq_true (by first | (with_reducible assumption) | assumption); have q299 : t298 < (x4_3.length : Int) := of_decide_eq_true (by first | (with_reducible assumption) | assumption); obtain ⟨ad299, e299, hx299_0⟩ := Kd.at_int (Kd.R_reads' HO_4.out).2.2 t298 p299 q299; obtain rfl : (⟨go21, 0, none⟩ : Addr) = ad299 := (by injection e299); (first | simp only [add_plain] at hx299_0 | simp only [add_at] at hx299_0 | simp only [Addr.add, Nat.zero_add] at hx299_0 | skip); replace p299 := eq_true p299; replace q299 := eq_true q299))
                            have n0_ := aM (Kd.R_drew HO_4.out)
                            have n1_ := aM (Kd.R_drew HO_5.out)
                            have n2_ := aM (Kd.R_drew HO_8.out)
                            have n3_ := aM (Kd.R_drew HO_57.out)
                            have n4_ := aM (below_drew1 HB.out)
                            clear HO_4 HO_5 HO_8 HO_57 HB
                            have HO_4 := n0_
                            have HO_5 := n1_
                            have HO_8 := n2_
                            have HO_57 := n3_
                            have HB := n4_
                            clear n0_ n1_ n2_ n3_ n4_
                            have p310 : 0 ≤ (t298 : Int) := of_decide_eq_true (by first | (with_reducible assumption) | assumption)
                            have q310 : t298 < (x4_3.length : Int) := of_decide_eq_true (by first | (with_reducible assumption) | assumption)
                            obtain ⟨ad310, e310, hx310_0⟩ := Kd.at_int (Kd.R_reads' HO_4.out).2.2 t298 p310 q310
                            obtain rfl : (⟨go21, 0, none⟩ : Addr) = ad310 := (by injection e310)
                            (first | simp only [add_plain] at hx310_0 | simp only [add_at] at hx310_0 | simp only [Addr.add, Nat.zero_add] at hx310_0 | skip)
                            replace p310 := eq_true p310
                            replace q310 := eq_true q310
                            have p311 : 0 ≤ (t290 : Int) := of_decide_eq_true (by first | (with_reducible assumption) | assumption)
                            have q311 : t290 < (x4_3.length : Int) := of_decide_eq_true (by first | (with_reducible assumption) | assumption)
                            obtain ⟨ad311, e311, hx311_0⟩ := Kd.at_int (Kd.R_reads' HO_4.out).2.2 t290 p311 q311
                            obtain rfl : (⟨go21, 0, none⟩ : Addr) = ad311 := (by injection e311)
                            (first | simp only [add_plain] at hx311_0 | simp only [add_at] at hx311_0 | simp only [Addr.add, Nat.zero_add] at hx311_0 | skip)
                            replace p311 := eq_true p311
                            replace q311 := eq_true q311
                            refine start_ (n := 10) (S := fun w' => w'.cell? ⟨go21, (t298).toNat, none⟩ = some (.int .i64 (rd x4_3 t298)) ∧ w'.cell? ⟨go21, (t290).toNat, none⟩ = some (.int .i64 (rd x4_3 t290))) (ds := []) #[F,F,F,F,F,F,F,F,F,F] (by kernel_rfl) rfl rfl ⟨hx310_0, hx311_0⟩ (fun hHeld => ?_); refine with_tabW spec_twFar.tab23 spec_twFar.bits23 (fun HT_ HW_ => ?_)
                            generalize wr.drew = w74 at HO_4 HO_5 HO_8 HO_57 HB hx310_0 hx311_0 hHeld ⊢
                            refine pure_ (i := 0) (N := some 88) (v := ?_) (a' := ?_) #[T,F,F,F,F,F,F,F,F,F] rfl rfl (any_of HT_.out (by kernel_rfl)) (fun _ _ _ h => h) (Or.inl ⟨by rfl, ?_⟩) ?_ ?_; rotate_left; (next => intro w'; go_simp; with_reducible rfl); rotate_left; next => simp only [Act.put, sA, sB, sC, i64_w, i32_w]; rfl
                            refine pure_ (i := 1) (N := some 89) (v := ?_) (a' := ?_) #[T,T,F,F,F,F,F,F,F,F] rfl rfl (any_of HT_.out (by kernel_rfl)) (fun _ _ _ h => h) (Or.inl ⟨by rfl, ?_⟩) ?_ ?_; rotate_left; (next => intro w'; go_simp; with_reducible rfl); rotate_left; next => simp only [Act.put, sA, sB, sC, i64_w, i32_w]; rfl
                            refine pure_ (i := 2) (N := some 90) (v := ?_) (a' := ?_) #[T,T,T,F,F,F,F,F,F,F] rfl rfl (any_of HT_.out (by kernel_rfl)) (fun _ _ _ h => h) (Or.inl ⟨by rfl, ?_⟩) ?_ ?_; rotate_left; (next => intro w'; go_simp; with_reducible rfl); rotate_left; next => simp only [Act.put, sA, sB, sC, i64_w, i32_w]; rfl
                            refine pure_ (i := 4) (N := some 92) (v := ?_) (a' := ?_) #[T,T,T,F,T,F,F,F,F,F] rfl rfl (any_of HT_.out (by kernel_rfl)) (fun _ _ _ h => h) (Or.inl ⟨by rfl, ?_⟩) ?_ ?_; rotate_left; (next => intro w'; go_simp; with_reducible rfl); rotate_left; next => simp only [Act.put, sA, sB, sC, i64_w, i32_w]; rfl
                            refine pure_ (i := 5) (N := some 93) (v := ?_) (a' := ?_) #[T,T,T,F,T,T,F,F,F,F] rfl rfl (any_of HT_.out (by kernel_rfl)) (fun _ _ _ h => h) (Or.inl ⟨by rfl, ?_⟩) ?_ ?_; rotate_left; (next => intro w'; go_simp; with_reducible rfl); rotate_left; next => simp only [Act.put, sA, sB, sC, i64_w, i32_w]; rfl
                            refine pure_ (i := 6) (N := some 94) (v := ?_) (a' := ?_) #[T,T,T,F,T,T,T,F,F,F] rfl rfl (any_of HT_.out (by kernel_rfl)) (fun _ _ _ h => h) (Or.inl ⟨by rfl, ?_⟩) ?_ ?_; rotate_left; (next => intro w'; go_simp; with_reducible rfl); rotate_left; next => simp only [Act.put, sA, sB, sC, i64_w, i32_w]; rfl
                            refine take_ (i := 3) (N := some 91) (v := ?_) (a' := ?_) #[T,T,T,T,T,T,T,F,F,F] rfl rfl (take_ofW HT_.out HW_.out (by kernel_rfl)) (fun _ _ _ h => h) (Or.inl ⟨by rfl, ?_⟩) hHeld ?_ ?_
                            rotate_left
                            ·rintro w' ⟨s0, s1⟩
                             go_simp
                             with_reducible rfl
                            rotate_left
                            ·simp only [Act.put, sA, sB, sC, i64_w, i32_w]
                             rfl
                            refine take_ (i := 7) (N := some 95) (v := ?_) (a' := ?_) #[T,T,T,T,T,T,T,T,F,F] rfl rfl (take_ofW HT_.out HW_.out (by kernel_rfl)) (fun _ _ _ h => h) (Or.inl ⟨by rfl, ?_⟩) hHeld ?_ ?_
                            rotate_left
                            ·rintro w' ⟨s0, s1⟩
                             go_simp
                             with_reducible rfl
                            rotate_left
                            ·simp only [Act.put, sA, sB, sC, i64_w, i32_w]
                             rfl
                            refine pure_ (i := 8) (N := some 96) (v := ?_) (a' := ?_) #[T,T,T,T,T,T,T,T,T,F] rfl rfl (any_of HT_.out (by kernel_rfl)) (fun _ _ _ h => h) (Or.inl ⟨by rfl, ?_⟩) ?_ ?_; rotate_left; (next => intro w'; go_simp; with_reducible rfl); rotate_left; next => simp only [Act.put, sA, sB, sC, i64_w, i32_w]; rfl
                            refine pure_ (i := 9) (N := some 97) (v := ?_) (a' := ?_) #[T,T,T,T,T,T,T,T,T,T] rfl rfl (any_of HT_.out (by kernel_rfl)) (fun _ _ _ h => h) (Or.inl ⟨by rfl, ?_⟩) ?_ ?_; rotate_left; (next => intro w'; go_simp; with_reducible rfl); rotate_left; next => simp only [Act.put, sA, sB, sC, i64_w, i32_w]; rfl
                            refine done_ (done_of HT_.out (by kernel_rfl)) ?_
                            try go_wp2
                            have n0_ := aM (Kd.R_drew HO_4.out)
                            have n1_ := aM (Kd.R_drew HO_5.out)
                            have n2_ := aM (Kd.R_drew HO_8.out)
                            have n3_ := aM (Kd.R_drew HO_57.out)
                            have n4_ := aM (below_drew1 HB.out)
                            clear HO_4 HO_5 HO_8 HO_57 HB
                            have HO_4 := n0_
                            have HO_5 := n1_
                            have HO_8 := n2_
                            have HO_57 := n3_
                            have HB := n4_
                            clear n0_ n1_ n2_ n3_ n4_
                            have p312 : 0 ≤ (t298 : Int) := of_decide_eq_true (by first | (with_reducible assumption) | assumption)
                            have q312 : t298 < (x5_3.length : Int) := of_decide_eq_true (by first | (with_reducible assumption) | assumption)
                            obtain ⟨ad312, e312, hx312_0⟩ := Kd.at_int (Kd.R_reads' HO_5.out).2.2 t298 p312 q312
                            obtain rfl : (⟨go23, 0, none⟩ : Addr) = ad312 := (by injection e312)
                            (first | simp only [add_plain] at hx312_0 | simp only [add_at] at hx312_0 | simp only [Addr.add, Nat.zero_add] at hx312_0 | skip)
                            replace p312 := eq_true p312
                            replace q312 := eq_true q312
                            have p313 : 0 ≤ (t290 : Int) := of_decide_eq_true (by first | (with_reducible assumption) | assumption)
                            have q313 : t290 < (x5_3.length : Int) := of_decide_eq_true (by first | (with_reducible assumption) | assumption)
                            obtain ⟨ad313, e313, hx313_0⟩ := Kd.at_int (Kd.R_reads' HO_5.out).2.2 t290 p313 q313
                            obtain rfl : (⟨go23, 0, none⟩ : Addr) = ad313 := (by injection e313)
                            (first | simp only [add_plain] at hx313_0 | simp only [add_at] at hx313_0 | simp only [Addr.add, Nat.zero_add] at hx313_0 | skip)
                            replace p313 := eq_true p313
                            replace q313 := eq_true q313
                            have p72 : 0 ≤ (t298 : Int) := of_decide_eq_true (by first | (with_reducible assumption) | assumption)
                            have q72 : (t298 : Int) < ((x5_3.length : Int) : Int) := of_decide_eq_true (by first | (with_reducible assumption) | assumption)
                            obtain ⟨hx72_0, hf72_0⟩ := Kd.R_celln 0 HO_5.out (t298 : Int) p72 q72
                            replace p72 := eq_true p72
                            replace q72 := eq_true q72
                            have HP76 := Kd.R_putn HO_5.out (t298 : Int) (wrap64 ((rd x5_3 t298) + (rd x5_3 t290)))
                            rw [← Ny314.out] at HP76
                            have HQ76 := aM HP76
                            clear HP76
                            refine start_ (n := 11) (S := fun w' => w'.cell? ⟨go23, (t298).toNat, none⟩ = some (.int .i64 (rd x5_3 t298)) ∧ w'.cell? ⟨go23, (t290).toNat, none⟩ = some (.int .i64 (rd x5_3 t290))) (ds := [10]) #[F,F,F,F,F,F,F,F,F,F,F] (by kernel_rfl) rfl rfl ⟨hx312_0, hx313_0⟩ (fun hHeld => ?_); refine with_tabW spec_twFar.tab24 spec_twFar.bits24 (fun HT_ HW_ => ?_)
                            generalize w74.drew = w75 at HO_4 HO_5 HO_8 HO_57 HB HQ76 hf72_0 hx312_0 hx313_0 hx72_0 hHeld ⊢
                            refine pure_ (i := 0) (N := some 98) (v := ?_) (a' := ?_) #[T,F,F,F,F,F,F,F,F,F,F] rfl rfl (any_of HT_.out (by kernel_rfl)) (fun _ _ _ h => h) (Or.inl ⟨by rfl, ?_⟩) ?_ ?_; rotate_left; (next => intro w'; go_simp; with_reducible rfl); rotate_left; next => simp only [Act.put, sA, sB, sC, i64_w, i32_w]; rfl
                            refine pure_ (i := 1) (N := some 99) (v := ?_) (a' := ?_) #[T,T,F,F,F,F,F,F,F,F,F] rfl rfl (any_of HT_.out (by kernel_rfl)) (fun _ _ _ h => h) (Or.inl ⟨by rfl, ?_⟩) ?_ ?_; rotate_left; (next => intro w'; go_simp; with_reducible rfl); rotate_left; next => simp only [Act.put, sA, sB, sC, i64_w, i32_w]; rfl
                            refine pure_ (i := 2) (N := some 100) (v := ?_) (a' := ?_) #[T,T,T,F,F,F,F,F,F,F,F] rfl rfl (any_of HT_.out (by kernel_rfl)) (fun _ _ _ h => h) (Or.inl ⟨by rfl, ?_⟩) ?_ ?_; rotate_left; (next => intro w'; go_simp; with_reducible rfl); rotate_left; next => simp only [Act.put, sA, sB, sC, i64_w, i32_w]; rfl
                            refine pure_ (i := 4) (N := some 102) (v := ?_) (a' := ?_) #[T,T,T,F,T,F,F,F,F,F,F] rfl rfl (any_of HT_.out (by kernel_rfl)) (fun _ _ _ h => h) (Or.inl ⟨by rfl, ?_⟩) ?_ ?_; rotate_left; (next => intro w'; go_simp; with_reducible rfl); rotate_left; next => simp only [Act.put, sA, sB, sC, i64_w, i32_w]; rfl
                            refine pure_ (i := 5) (N := some 103) (v := ?_) (a' := ?_) #[T,T,T,F,T,T,F,F,F,F,F] rfl rfl (any_of HT_.out (by kernel_rfl)) (fun _ _ _ h => h) (Or.inl ⟨by rfl, ?_⟩) ?_ ?_; rotate_left; (next => intro w'; go_simp; with_reducible rfl); rotate_left; next => simp only [Act.put, sA, sB, sC, i64_w, i32_w]; rfl
                            refine pure_ (i := 6) (N := some 104) (v := ?_) (a' := ?_) #[T,T,T,F,T,T,T,F,F,F,F] rfl rfl (any_of HT_.out (by kernel_rfl)) (fun _ _ _ h => h) (Or.inl ⟨by rfl, ?_⟩) ?_ ?_; rotate_left; (next => intro w'; go_simp; with_reducible rfl); rotate_left; next => simp only [Act.put, sA, sB, sC, i64_w, i32_w]; rfl
                            refine take_ (i := 3) (N := some 101) (v := ?_) (a' := ?_) #[T,T,T,T,T,T,T,F,F,F,F] rfl rfl (take_ofW HT_.out HW_.out (by kernel_rfl)) (fun _ _ _ h => h) (Or.inl ⟨by rfl, ?_⟩) hHeld ?_ ?_
                            rotate_left
                            ·rintro w' ⟨s0, s1⟩
                             go_simp
                             with_reducible rfl
                            rotate_left
                            ·simp only [Act.put, sA, sB, sC, i64_w, i32_w]
                             rfl
                            refine take_ (i := 7) (N := some 105) (v := ?_) (a' := ?_) #[T,T,T,T,T,T,T,T,F,F,F] rfl rfl (take_ofW HT_.out HW_.out (by kernel_rfl)) (fun _ _ _ h => h) (Or.inl ⟨by rfl, ?_⟩) hHeld ?_ ?_
                            rotate_left
                            ·rintro w' ⟨s0, s1⟩
                             go_simp
                             with_reducible rfl
                            rotate_left
                            ·simp only [Act.put, sA, sB, sC, i64_w, i32_w]
                             rfl
                            refine pure_ (i := 8) (N := some 106) (v := ?_) (a' := ?_) #[T,T,T,T,T,T,T,T,T,F,F] rfl rfl (any_of HT_.out (by kernel_rfl)) (fun _ _ _ h => h) (Or.inl ⟨by rfl, ?_⟩) ?_ ?_; rotate_left; (next => intro w'; go_simp; with_reducible rfl); rotate_left; next => simp only [Act.put, sA, sB, sC, i64_w, i32_w]; rfl
                            refine pure_ (i := 9) (N := some 107) (v := ?_) (a' := ?_) #[T,T,T,T,T,T,T,T,T,T,F] rfl rfl (any_of HT_.out (by kernel_rfl)) (fun _ _ _ h => h) (Or.inl ⟨by rfl, ?_⟩) ?_ ?_; rotate_left; (next => intro w'; go_simp; with_reducible rfl); rotate_left; next => simp only [Act.put, sA, sB, sC, i64_w, i32_w]; rfl
                            refine last_ (i := 10) (N := none) #[T,T,T,T,T,T,T,T,T,T,T] rfl rfl (one_of HT_.out (by kernel_rfl)) (by decide) (fun K hK => ?_)
                            refine skip_ (w1 := ?_) (by rfl) rfl ?_ ?_
                            rotate_left
                            ·go_simp
                             rfl
                            refine hK.out _ _ ?_
                            clear hK K
                            refine done_ (done_of HT_.out (by kernel_rfl)) ?_
                            try go_wp2
                            (try simp only [← hl4_3, ← hl5_3])
                            go_roundg k3
                            case measure => have := HK1.out; have := HK2.out; have := HK3.out; omega
                            case rel => exact ⟨(x4_3), (y314), (x8_3), (wrap64 (x59_3 + 1)), (by first | rfl | (simp; done) | (simp [*]; done)), H', ⟨by have := HK1.out; have := HK2.out; have := HK3.out; omega⟩, ⟨by (try simp only [hl4_1]); (try simp only [hl4_2]); (try simp only [hl5_2]); (try simp only [hl4_3]); (try simp only [hl5_3]); (with_reducible repeat (first | apply rA | apply rN | apply rD)); exact Kd.R_mono (Kd.R_far (p := ⟨go23, (t298 : Int).toNat, none⟩) (Kd.R_mono HO_4.out (fun k_ hk => (⟨hk, fun e_ => hk.1 (by rw [e_]; rfl)⟩ : _ ∧ k_ ≠ go23))) (fun _ hk => hk.2) (.int .i64 (wrap64 ((rd x5_3 t298) + (rd x5_3 t290))))) (fun _ hk => ⟨hk.1.1, hk.1.2⟩)⟩, ⟨by (try simp only [hl4_1]); (try simp only [hl4_2]); (try simp only [hl5_2]); (try simp only [hl4_3]); (try simp only [hl5_3]); (with_reducible repeat (first | apply rA | apply rN | apply rD)); exact HQ76.out⟩, ⟨by (try simp only [hl4_1]); (try simp only [hl4_2]); (try simp only [hl5_2]); (try simp only [hl4_3]); (try simp only [hl5_3]); (with_reducible repeat (first | apply rA | apply rN | apply rD)); exact Kd.R_mono (Kd.R_far (p := ⟨go23, (t298 : Int).toNat, none⟩) (Kd.R_types (t := 3) HO_8.out (by first | exact GG23.out | exact (Kd.R_typed HO_5.out _ rfl).choose_spec) (by decide)) (fun _ hk => hk.2) (.int .i64 (wrap64 ((rd x5_3 t298) + (rd x5_3 t290))))) (fun _ hk => trivial)⟩, ⟨by (try simp only [hl4_1]); (try simp only [hl4_2]); (try simp only [hl5_2]); (try simp only [hl4_3]); (try simp only [hl5_3]); (with_reducible repeat (first | apply rA | apply rN | apply rD)); exact Kd.R_mono (Kd.R_far (p := ⟨go23, (t298 : Int).toNat, none⟩) (Kd.R_mono HO_57.out (fun k_ hk => (⟨hk, fun e_ => hk.2 (by rw [e_]; rfl)⟩ : _ ∧ k_ ≠ go23))) (fun _ hk => hk.2) (.int .i64 (wrap64 ((rd x5_3 t298) + (rd x5_3 t290))))) (fun _ hk => ⟨hk.1.1, hk.1.2⟩)⟩, ⟨by repeat (first | (with_reducible first | exact HB.out | apply bA | apply bN | apply bD | refine bS ?_ GB23.out) | exact HB.out)⟩⟩
                           ·rw [if_neg c71] at H
                            exact absurd H (by simp)
                          ·rw [if_neg c70] at H
                           exact absurd H (by simp)
                         ·rw [if_neg c69] at H
                          have c69b0 : ((rd x4_3 t298) == (wrap64 ((rd x4_3 t290) + 1))) = false := beq_eq_false_iff_ne.mpr c69
                          have c69b1 : ((rd x4_3 t298) != (wrap64 ((rd x4_3 t290) + 1))) = true := bne_iff_ne.mpr c69
                          have H' := aM H
                          clear H
                          have p295 : 0 ≤ (x59_3 : Int) := of_decide_eq_true (by first | (with_reducible assumption) | assumption)
                          have q295 : x59_3 < (t292.length : Int) := of_decide_eq_true (by first | (with_reducible assumption) | assumption)
                          obtain ⟨ad295, e295, hx295_0⟩ := Kd.at_int (Kd.R_reads' HO_57.out).2.2 x59_3 p295 q295
                          cases e295
                          replace p295 := eq_true p295
                          replace q295 := eq_true q295
                          obtain ⟨Ao77, co77, eo77⟩ := Kd.R_slice HO_8.out
                          subst eo77
                          have p296 : 0 ≤ (x9_2 : Int) := of_decide_eq_true (by first | (with_reducible assumption) | assumption)
                          have q296 : x9_2 < (x8_3.length : Int) := of_decide_eq_true (by first | (with_reducible assumption) | assumption)
                          obtain ⟨ad296, e296, hx296_0⟩ := Kd.at_string (Kd.R_reads' HO_8.out).2.2 x9_2 p296 q296
                          cases e296
                          replace p296 := eq_true p296
                          replace q296 := eq_true q296
                          try go_wp2_with (first | ((with_reducible refine gate_callee (f := 54) rfl ?_); refine goesL_ (some 68) rfl rfl Tryz.func54 (by kernel_rfl) rfl #[.string (rdOf ByteArray.empty x8_3 x9_2), .int .i64 (rd t292 x59_3)] rfl (by (try simp only [List.map_toArray, List.map_cons, List.map_nil]); first | done | rfl | (simp only [List.length_drop, List.length_take]; rfl)) ?_; (with_reducible refine (spec_twMake.calls (rdOf ByteArray.empty x8_3 x9_2) (rd t292 x59_3) t297 _ A42.out).mono ?_); rintro e w' ⟨rfl, ⟨nd, rfl⟩⟩; refine ⟨_, rfl, ?_⟩) | ((with_reducible refine gate_callee (f := 44) rfl ?_); refine goesL_ (some 70) rfl rfl Tryz.func44 (by kernel_rfl) rfl #[.string t297] rfl (by (try simp only [List.map_toArray, List.map_cons, List.map_nil]); first | done | rfl | (simp only [List.length_drop, List.length_take]; rfl)) ?_; (with_reducible refine (spec_riNumber.calls k3 t297 t298 _ A43.out).mono ?_); rintro e w' ⟨rfl, ⟨nd, rfl⟩⟩; refine ⟨_, rfl, ?_⟩; have p299 : 0 ≤ (t298 : Int) := of_decide_eq_true (by first | (with_reducible assumption) | assumption); have q299 : t298 < (x4_3.length : Int) := of_decide_eq_true (by first | (with_reducible assumption) | assumption); obtain ⟨ad299, e299, hx299_0⟩ := Kd.at_int (Kd.R_reads' HO_4.out).2.2 t298 p299 q299; obtain rfl : (⟨go21, 0, none⟩ : Addr) = ad299 := (by injection e299); (first | simp only [add_plain] at hx299_0 | simp only [add_at] at hx299_0 | simp only [Addr.add, Nat.zero_add] at hx299_0 | skip); replace p299 := eq_true p299; replace q299 := eq_true q299))
                          (try (rw [drewN_self wr]; generalize hq_ : World.drewN wr _ = wr; have n0_ : Aside0 (Kd.R (Kd.int .i64) 3 wr w.heap.size (fun k_ => some k_ ≠ (.slice (some ⟨go23, 0, none⟩) x5_3.length co23 : Value).ownBlock ∧ some k_ ≠ (.slice (some ad295) t292.length co36 : Value).ownBlock) (.slice (some ⟨go21, 0, none⟩) x4_3.length co11) x4_3) := ⟨by rw [← hq_]; exact (by (with_reducible repeat (first | apply rA | apply rN | apply rD)); exact HO_4.out)⟩; have n1_ : Aside0 (Kd.R (Kd.int .i64) 3 wr w.heap.size (fun k_ => some k_ ≠ (.slice (some ⟨go21, 0, none⟩) x4_3.length co11 : Value).ownBlock ∧ some k_ ≠ (.slice (some ad295) t292.length co36 : Value).ownBlock) (.slice (some ⟨go23, 0, none⟩) x5_3.length co23) x5_3) := ⟨by rw [← hq_]; exact (by (with_reducible repeat (first | apply rA | apply rN | apply rD)); exact HO_5.out)⟩; have n2_ : Aside0 (Kd.R Kd.string 9 wr w.heap.size (fun _ => True) (.slice (some ad296) x8_3.length co77) x8_3) := ⟨by rw [← hq_]; exact (by (with_reducible repeat (first | apply rA | apply rN | apply rD)); exact HO_8.out)⟩; have n3_ : Aside0 (Kd.R (Kd.int .i64) 3 wr w.heap.size (fun k_ => some k_ ≠ (.slice (some ⟨go21, 0, none⟩) x4_3.length co11 : Value).ownBlock ∧ some k_ ≠ (.slice (some ⟨go23, 0, none⟩) x5_3.length co23 : Value).ownBlock) (.slice (some ad295) t292.length co36) t292) := ⟨by rw [← hq_]; exact (by (with_reducible repeat (first | apply rA | apply rN | apply rD)); exact HO_57.out)⟩; have n4_ : Aside0 (Below w.heap.size w wr) := ⟨by rw [← hq_]; exact (by repeat (first | (with_reducible first | exact HB.out | apply bA | apply bN | apply bD) | exact HB.out))⟩; clear HO_4 HO_5 HO_8 HO_57 HB hq_; have HO_4 := n0_; have HO_5 := n1_; have HO_8 := n2_; have HO_57 := n3_; have HB := n4_; clear n0_ n1_ n2_ n3_ n4_))
                          have n0_ := aM (Kd.R_drew HO_4.out)
                          have n1_ := aM (Kd.R_drew HO_5.out)
                          have n2_ := aM (Kd.R_drew HO_8.out)
                          have n3_ := aM (Kd.R_drew HO_57.out)
                          have n4_ := aM (below_drew1 HB.out)
                          clear HO_4 HO_5 HO_8 HO_57 HB
                          have HO_4 := n0_
                          have HO_5 := n1_
                          have HO_8 := n2_
                          have HO_57 := n3_
                          have HB := n4_
                          clear n0_ n1_ n2_ n3_ n4_
                          have p310 : 0 ≤ (t298 : Int) := of_decide_eq_true (by first | (with_reducible assumption) | assumption)
                          have q310 : t298 < (x4_3.length : Int) := of_decide_eq_true (by first | (with_reducible assumption) | assumption)
                          obtain ⟨ad310, e310, hx310_0⟩ := Kd.at_int (Kd.R_reads' HO_4.out).2.2 t298 p310 q310
                          obtain rfl : (⟨go21, 0, none⟩ : Addr) = ad310 := (by injection e310)
                          (first | simp only [add_plain] at hx310_0 | simp only [add_at] at hx310_0 | simp only [Addr.add, Nat.zero_add] at hx310_0 | skip)
                          replace p310 := eq_true p310
                          replace q310 := eq_true q310
                          have p311 : 0 ≤ (t290 : Int) := of_decide_eq_true (by first | (with_reducible assumption) | assumption)
                          have q311 : t290 < (x4_3.length : Int) := of_decide_eq_true (by first | (with_reducible assumption) | assumption)
                          obtain ⟨ad311, e311, hx311_0⟩ := Kd.at_int (Kd.R_reads' HO_4.out).2.2 t290 p311 q311
                          obtain rfl : (⟨go21, 0, none⟩ : Addr) = ad311 := (by injection e311)
                          (first | simp only [add_plain] at hx311_0 | simp only [add_at] at hx311_0 | simp only [Addr.add, Nat.zero_add] at hx311_0 | skip)
                          replace p311 := eq_true p311
                          replace q311 := eq_true q311
                          refine start_ (n := 10) (S := fun w' => w'.cell? ⟨go21, (t298).toNat, none⟩ = some (.int .i64 (rd x4_3 t298)) ∧ w'.cell? ⟨go21, (t290).toNat, none⟩ = some (.int .i64 (rd x4_3 t290))) (ds := []) #[F,F,F,F,F,F,F,F,F,F] (by kernel_rfl) rfl rfl ⟨hx310_0, hx311_0⟩ (fun hHeld => ?_); refine with_tabW spec_twFar.tab23 spec_twFar.bits23 (fun HT_ HW_ => ?_)
                          generalize wr.drew = w78 at HO_4 HO_5 HO_8 HO_57 HB hx310_0 hx311_0 hHeld ⊢
                          refine pure_ (i := 0) (N := some 88) (v := ?_) (a' := ?_) #[T,F,F,F,F,F,F,F,F,F] rfl rfl (any_of HT_.out (by kernel_rfl)) (fun _ _ _ h => h) (Or.inl ⟨by rfl, ?_⟩) ?_ ?_; rotate_left; (next => intro w'; go_simp; with_reducible rfl); rotate_left; next => simp only [Act.put, sA, sB, sC, i64_w, i32_w]; rfl
                          refine pure_ (i := 1) (N := some 89) (v := ?_) (a' := ?_) #[T,T,F,F,F,F,F,F,F,F] rfl rfl (any_of HT_.out (by kernel_rfl)) (fun _ _ _ h => h) (Or.inl ⟨by rfl, ?_⟩) ?_ ?_; rotate_left; (next => intro w'; go_simp; with_reducible rfl); rotate_left; next => simp only [Act.put, sA, sB, sC, i64_w, i32_w]; rfl
                          refine pure_ (i := 2) (N := some 90) (v := ?_) (a' := ?_) #[T,T,T,F,F,F,F,F,F,F] rfl rfl (any_of HT_.out (by kernel_rfl)) (fun _ _ _ h => h) (Or.inl ⟨by rfl, ?_⟩) ?_ ?_; rotate_left; (next => intro w'; go_simp; with_reducible rfl); rotate_left; next => simp only [Act.put, sA, sB, sC, i64_w, i32_w]; rfl
                          refine pure_ (i := 4) (N := some 92) (v := ?_) (a' := ?_) #[T,T,T,F,T,F,F,F,F,F] rfl rfl (any_of HT_.out (by kernel_rfl)) (fun _ _ _ h => h) (Or.inl ⟨by rfl, ?_⟩) ?_ ?_; rotate_left; (next => intro w'; go_simp; with_reducible rfl); rotate_left; next => simp only [Act.put, sA, sB, sC, i64_w, i32_w]; rfl
                          refine pure_ (i := 5) (N := some 93) (v := ?_) (a' := ?_) #[T,T,T,F,T,T,F,F,F,F] rfl rfl (any_of HT_.out (by kernel_rfl)) (fun _ _ _ h => h) (Or.inl ⟨by rfl, ?_⟩) ?_ ?_; rotate_left; (next => intro w'; go_simp; with_reducible rfl); rotate_left; next => simp only [Act.put, sA, sB, sC, i64_w, i32_w]; rfl
                          refine pure_ (i := 6) (N := some 94) (v := ?_) (a' := ?_) #[T,T,T,F,T,T,T,F,F,F] rfl rfl (any_of HT_.out (by kernel_rfl)) (fun _ _ _ h => h) (Or.inl ⟨by rfl, ?_⟩) ?_ ?_; rotate_left; (next => intro w'; go_simp; with_reducible rfl); rotate_left; next => simp only [Act.put, sA, sB, sC, i64_w, i32_w]; rfl
                          refine take_ (i := 3) (N := some 91) (v := ?_) (a' := ?_) #[T,T,T,T,T,T,T,F,F,F] rfl rfl (take_ofW HT_.out HW_.out (by kernel_rfl)) (fun _ _ _ h => h) (Or.inl ⟨by rfl, ?_⟩) hHeld ?_ ?_
                          rotate_left
                          ·rintro w' ⟨s0, s1⟩
                           go_simp
                           with_reducible rfl
                          rotate_left
                          ·simp only [Act.put, sA, sB, sC, i64_w, i32_w]
                           rfl
                          refine take_ (i := 7) (N := some 95) (v := ?_) (a' := ?_) #[T,T,T,T,T,T,T,T,F,F] rfl rfl (take_ofW HT_.out HW_.out (by kernel_rfl)) (fun _ _ _ h => h) (Or.inl ⟨by rfl, ?_⟩) hHeld ?_ ?_
                          rotate_left
                          ·rintro w' ⟨s0, s1⟩
                           go_simp
                           with_reducible rfl
                          rotate_left
                          ·simp only [Act.put, sA, sB, sC, i64_w, i32_w]
                           rfl
                          refine pure_ (i := 8) (N := some 96) (v := ?_) (a' := ?_) #[T,T,T,T,T,T,T,T,T,F] rfl rfl (any_of HT_.out (by kernel_rfl)) (fun _ _ _ h => h) (Or.inl ⟨by rfl, ?_⟩) ?_ ?_; rotate_left; (next => intro w'; go_simp; with_reducible rfl); rotate_left; next => simp only [Act.put, sA, sB, sC, i64_w, i32_w]; rfl
                          refine pure_ (i := 9) (N := some 97) (v := ?_) (a' := ?_) #[T,T,T,T,T,T,T,T,T,T] rfl rfl (any_of HT_.out (by kernel_rfl)) (fun _ _ _ h => h) (Or.inl ⟨by rfl, ?_⟩) ?_ ?_; rotate_left; (next => intro w'; go_simp; with_reducible rfl); rotate_left; next => simp only [Act.put, sA, sB, sC, i64_w, i32_w]; rfl
                          refine done_ (done_of HT_.out (by kernel_rfl)) ?_
                          try go_wp2
                          (try simp only [← hl4_3, ← hl5_3])
                          go_roundg k3
                          case measure => have := HK1.out; have := HK2.out; have := HK3.out; omega
                          case rel => exact ⟨(x4_3), (x5_3), (x8_3), (wrap64 (x59_3 + 1)), (by first | rfl | (simp; done) | (simp [*]; done)), H', ⟨by have := HK1.out; have := HK2.out; have := HK3.out; omega⟩, ⟨by (try simp only [hl4_1]); (try simp only [hl4_2]); (try simp only [hl5_2]); (try simp only [hl4_3]); (try simp only [hl5_3]); (with_reducible repeat (first | apply rA | apply rN | apply rD)); exact HO_4.out⟩, ⟨by (try simp only [hl4_1]); (try simp only [hl4_2]); (try simp only [hl5_2]); (try simp only [hl4_3]); (try simp only [hl5_3]); (with_reducible repeat (first | apply rA | apply rN | apply rD)); exact HO_5.out⟩, ⟨by (try simp only [hl4_1]); (try simp only [hl4_2]); (try simp only [hl5_2]); (try simp only [hl4_3]); (try simp only [hl5_3]); (with_reducible repeat (first | apply rA | apply rN | apply rD)); exact HO_8.out⟩, ⟨by (try simp only [hl4_1]); (try simp only [hl4_2]); (try simp only [hl5_2]); (try simp only [hl4_3]); (try simp only [hl5_3]); (with_reducible repeat (first | apply rA | apply rN | apply rD)); exact HO_57.out⟩, ⟨by repeat (first | (with_reducible first | exact HB.out | apply bA | apply bN | apply bD) | exact HB.out)⟩⟩
                        ·rw [if_neg c68] at H
                         exact absurd H (by simp)
                       ·rw [if_neg c67] at H
                        exact absurd H (by simp)
                     ·rw [if_neg c45] at H
                      exact absurd H (by simp)
                    ·rw [if_neg c44] at H
                     exact absurd H (by simp)
                   ·rw [if_neg c41] at H
                    exact absurd H (by simp)
                  ·rw [if_neg c40] at H
                   exact absurd H (by simp)
                 ·rw [if_neg c39] at H
                  exact absurd H (by simp)
                ·rw [if_neg c38] at H
                 exact absurd H (by simp)
               ·rw [if_neg c37] at H
                have c37b0 : decide (x59_3 < (t292.length : Int)) = false := decide_eq_false c37
                (try (have c37m0 := c37b0; simp only [hl4_1] at c37m0)); (try (have c37m1 := c37b0; simp only [hl4_2] at c37m1)); (try (have c37m2 := c37b0; simp only [hl5_2] at c37m2)); (try (have c37m3 := c37b0; simp only [hl4_3] at c37m3)); (try (have c37m4 := c37b0; simp only [hl5_3] at c37m4))
                clear c37
                have H' := aM H
                clear H
                go_wp2
                (try simp only [← hl4_2, ← hl5_2, ← hl4_3, ← hl5_3])
                go_roundg k3
                case measure => have := HK1.out; have := HK2.out; have := HK3.out; omega
                case rel => exact ⟨(x4_3), (x5_3), (x8_3), (wrap64 (x9_2 + 1)), (by first | rfl | (simp; done) | (simp [*]; done)), H', ⟨by have := HK1.out; have := HK2.out; have := HK3.out; omega⟩, ⟨by (try simp only [hl4_1]); (try simp only [hl4_2]); (try simp only [hl5_2]); (try simp only [hl4_3]); (try simp only [hl5_3]); (with_reducible repeat (first | apply rA | apply rN | apply rD)); exact Kd.R_mono HO_4.out (fun _ hk => hk.1)⟩, ⟨by (try simp only [hl4_1]); (try simp only [hl4_2]); (try simp only [hl5_2]); (try simp only [hl4_3]); (try simp only [hl5_3]); (with_reducible repeat (first | apply rA | apply rN | apply rD)); exact Kd.R_mono HO_5.out (fun _ hk => hk.1)⟩, ⟨by (try simp only [hl4_1]); (try simp only [hl4_2]); (try simp only [hl5_2]); (try simp only [hl4_3]); (try simp only [hl5_3]); (with_reducible repeat (first | apply rA | apply rN | apply rD)); exact HO_8.out⟩, ⟨by repeat (first | (with_reducible first | exact HB.out | apply bA | apply bN | apply bD) | exact HB.out)⟩⟩
            ·rw [if_neg c31] at H
             exact absurd H (by simp)
           ·rw [if_neg c30] at H
            have c30b0 : decide (x9_2 < (x8_2.length : Int)) = false := decide_eq_false c30
            (try (have c30m0 := c30b0; simp only [hl4_1] at c30m0)); (try (have c30m1 := c30b0; simp only [hl4_2] at c30m1)); (try (have c30m2 := c30b0; simp only [hl5_2] at c30m2))
            clear c30
            simp only [Option.some.injEq, Prod.mk.injEq] at H
            obtain ⟨rfl, rfl⟩ := H
            obtain ⟨Ao79, co79, eo79⟩ := Kd.R_slice HO_8.out
            subst eo79
            go_wp2
            go_ret2
            exact ⟨_, _, by first | rfl | (simp [errW_none, errW_some] <;> rfl) | (simp only [← hji2]; first | rfl | (simp [errW_none, errW_some] <;> rfl)) | (simp [*, errW_none, errW_some] <;> rfl), by (with_reducible repeat (first | apply rA | apply rN | apply rD)); exact HO_4.out, by (with_reducible repeat (first | apply rA | apply rN | apply rD)); exact HO_5.out, by repeat (first | (with_reducible first | exact HB.out | apply bA | apply bN | apply bD) | exact HB.out)⟩
        ·rw [if_neg c22] at H
         exact absurd H (by simp)
       ·rw [if_neg c20] at H
        exact absurd H (by simp)
      ·rw [if_neg c19] at H
       exact absurd H (by simp)
  ·rw [if_neg c4] at H
   exact absurd H (by simp)
 ·rw [if_neg c3] at H
  exact absurd H (by simp)

end Go.Proofs.YtgfjgpnaalblbaaGreatDoor.PN
