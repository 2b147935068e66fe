-- written by a program of this session's (wip/tools), over the kit's print
import Derived.Test.YtbmbehkdidlolaaGreatDoorPTx0
import Derived.Test.YtbmbehkdidlolaaGreatDoorPTx4
import Derived.Test.YtbmbehkdidlolaaGreatDoorPTx5
-- squeezed
-- squeezed twice
namespace Go.Proofs.YtbmbehkdidlolaaGreatDoor.PT
open Go.RowKit Go.Proofs.YtbmbehkdidlolaaGreatDoorW.PrintWords Go.Proofs.YtbmbehkdidlolaaGreatDoorW.PrintLast Go.Proofs.YtbmbehkdidlolaaGreatDoorW.PrintMore
attribute [local go_sem] max2_int min2_int max_two min_two max_three min_three max_four min_four   -- for this text's walks alone
set_option linter.unusedVariables false
set_option linter.unusedSimpArgs false

/-! ### spec_keFar: function 36 -/
mutual
def spec_keFar.l0 : Nat → List ByteArray → ByteArray → List Int → List Int → Int → Int → Option (List Int × List Int)
 | 0, _, _, _, _, _, _ => none
 | k + 1, x0, x1, x6, x7, x26, x27 => if x27 < x26 then (if 0 ≤ x27 then (if x27 < (x6.length : Int) then (spec_keFar.l0 k x0 x1 (x6.set (x27 : Int).toNat (-1)) x7 x26 (wrap64 (x27 + 1))) else (none)) else (none)) else ((spec_riNumber.f k x1).bind fun t178 => (if 0 ≤ t178 then (if t178 < (x6.length : Int) then (if t178 < (x7.length : Int) then (spec_keFar.l1 k x0 (x6.set (t178 : Int).toNat 0) (x7.set (t178 : Int).toNat 1) (([x1] : List ByteArray)) 0) else (none)) else (none)) else (none)))
def spec_keFar.l1 : Nat → List ByteArray → List Int → List Int → List ByteArray → Int → Option (List Int × List Int)
 | 0, _, _, _, _, _ => none
 | k + 1, x0, x6, x7, x10, x11 => if x11 < (x10.length : Int) then (if 0 ≤ x11 then ((spec_riNumber.f k (rdOf ByteArray.empty x10 x11)).bind fun t185 => ((spec_keMoves.f k x0 (rdOf ByteArray.empty x10 x11)).bind fun t187 => (spec_keFar.l2 k x0 x6 x7 x10 x11 t185 t187 (t187.length : Int) 0))) else (none)) else (some (x6, x7))
def spec_keFar.l2 : Nat → List ByteArray → List Int → List Int → List ByteArray → Int → Int → List Int → Int → Int → Option (List Int × List Int)
 | 0, _, _, _, _, _, _, _, _, _ => none
 | k + 1, x0, x6, x7, x10, x11, x12, x60, x61, x62 => if x62 < x61 then (if 0 ≤ x62 then (if x62 < (x60.length : Int) then (if 0 ≤ x11 then (if x11 < (x10.length : Int) then ((spec_riMove.f (rdOf ByteArray.empty x10 x11) (rd x60 x62)).bind fun t192 => ((spec_riNumber.f k t192).bind fun t193 => (if 0 ≤ t193 then (if t193 < (x6.length : Int) then (if (rd x6 t193) < 0 then (if 0 ≤ x12 then (if x12 < (x6.length : Int) then ((some (x6.set (t193 : Int).toNat (wrap64 ((rd x6 x12) + 1)) : List Int)).bind fun y196 => (if x10.length < 8796093022208 then ((some (x10 ++ [t192] : List ByteArray)).bind fun y197 => (if (rd y196 t193) = (wrap64 ((rd y196 x12) + 1)) then (if t193 < (x7.length : Int) then (if x12 < (x7.length : Int) then (spec_keFar.l2 k x0 y196 (x7.set (t193 : Int).toNat (wrap64 ((rd x7 t193) + (rd x7 x12)))) y197 x11 x12 x60 x61 (wrap64 (x62 + 1))) else (none)) else (none)) else (spec_keFar.l2 k x0 y196 x7 y197 x11 x12 x60 x61 (wrap64 (x62 + 1))))) else (none))) else (none)) else (none)) else (if 0 ≤ x12 then (if x12 < (x6.length : Int) then (if (rd x6 t193) = (wrap64 ((rd x6 x12) + 1)) then (if t193 < (x7.length : Int) then (if x12 < (x7.length : Int) then (spec_keFar.l2 k x0 x6 (x7.set (t193 : Int).toNat (wrap64 ((rd x7 t193) + (rd x7 x12)))) x10 x11 x12 x60 x61 (wrap64 (x62 + 1))) else (none)) else (none)) else (spec_keFar.l2 k x0 x6 x7 x10 x11 x12 x60 x61 (wrap64 (x62 + 1)))) else (none)) else (none))) else (none)) else (none)))) else (none)) else (none)) else (none)) else (none)) else (spec_keFar.l1 k x0 x6 x7 x10 (wrap64 (x11 + 1)))
end
def spec_keFar.f (k : Nat) (l0 : List ByteArray) (a1 : ByteArray) : Option (List Int × List Int) := if 0 ≤ (shl .i64 1 (a1.size : Int)) then (if (shl .i64 1 (a1.size : Int) : Int).toNat ≤ 35184372088832 then ((some (List.replicate (shl .i64 1 (a1.size : Int) : Int).toNat 0 : List Int)).bind fun y171 => (spec_keFar.l0 k l0 a1 y171 (List.replicate (shl .i64 1 (a1.size : Int) : Int).toNat 0) (y171.length : Int) 0)) else (none)) else (none)
theorem spec_keFar.mono_l : ∀ k, (∀ y0 y1 y2 y3 y4 y5, LeO (spec_keFar.l0 k y0 y1 y2 y3 y4 y5) (spec_keFar.l0 (k + 1) y0 y1 y2 y3 y4 y5)) ∧ (∀ y0 y1 y2 y3 y4, LeO (spec_keFar.l1 k y0 y1 y2 y3 y4) (spec_keFar.l1 (k + 1) y0 y1 y2 y3 y4)) ∧ (∀ y0 y1 y2 y3 y4 y5 y6 y7 y8, LeO (spec_keFar.l2 k y0 y1 y2 y3 y4 y5 y6 y7 y8) (spec_keFar.l2 (k + 1) y0 y1 y2 y3 y4 y5 y6 y7 y8))
 | 0 => ⟨fun _ _ _ _ _ _ r h => by simp [spec_keFar.l0] at h, fun _ _ _ _ _ r h => by simp [spec_keFar.l1] at h, fun _ _ _ _ _ _ _ _ _ r h => by simp [spec_keFar.l2] at h⟩
 | k + 1 => by
  obtain ⟨ih0, ih1, ih2⟩ := spec_keFar.mono_l k
  refine ⟨?_, ?_, ?_⟩
  ·intro y0 y1 y2 y3 y4 y5
   unfold spec_keFar.l0
   with_reducible repeat' first | exact ih0 _ _ _ _ _ _ | exact ih1 _ _ _ _ _ | exact ih2 _ _ _ _ _ _ _ _ _ | exact spec_keMoves.mono _ _ _ | exact spec_riNumber.mono _ _ | exact LeO.refl _ | exact LeO.none _ | refine LeO.ite ?_ ?_ | refine LeO.bind ?_ (fun _ => ?_)
  ·intro y0 y1 y2 y3 y4
   unfold spec_keFar.l1
   with_reducible repeat' first | exact ih0 _ _ _ _ _ _ | exact ih1 _ _ _ _ _ | exact ih2 _ _ _ _ _ _ _ _ _ | exact spec_keMoves.mono _ _ _ | exact spec_riNumber.mono _ _ | exact LeO.refl _ | exact LeO.none _ | refine LeO.ite ?_ ?_ | refine LeO.bind ?_ (fun _ => ?_)
  ·intro y0 y1 y2 y3 y4 y5 y6 y7 y8
   unfold spec_keFar.l2
   with_reducible repeat' first | exact ih0 _ _ _ _ _ _ | exact ih1 _ _ _ _ _ | exact ih2 _ _ _ _ _ _ _ _ _ | exact spec_keMoves.mono _ _ _ | exact spec_riNumber.mono _ _ | exact LeO.refl _ | exact LeO.none _ | refine LeO.ite ?_ ?_ | refine LeO.bind ?_ (fun _ => ?_)
theorem spec_keFar.mono : ∀ a0 a1 k, LeO (spec_keFar.f k a0 a1) (spec_keFar.f (k + 1) a0 a1) := by
 intro a0 a1 k
 obtain ⟨ih0, ih1, ih2⟩ := spec_keFar.mono_l k
 unfold spec_keFar.f
 with_reducible repeat' first | exact ih0 _ _ _ _ _ _ | exact ih1 _ _ _ _ _ | exact ih2 _ _ _ _ _ _ _ _ _ | exact spec_keMoves.mono _ _ _ | exact spec_riNumber.mono _ _ | exact LeO.refl _ | exact LeO.none _ | refine LeO.ite ?_ ?_ | refine LeO.bind ?_ (fun _ => ?_)
def spec_keFar.T1 : Bool × List (List Nat × List Nat) := (true, [([], []), ([0], [0]), ([1], [1]), ([2, 2], [2]), ([], []), ([4], [4]), ([5], [5]), ([6, 6], [6]), ([3, 0, 1, 2, 3], [3]), ([7, 8, 0, 1, 2, 3, 4, 5, 6, 7, 8], [7])])
def spec_keFar.B1 : List Nat := [0, 1, 3, 7, 0, 16, 48, 112, 15, 511]
theorem spec_keFar.tab1 : rtab .any (opsOf Tryz.f36 1) = spec_keFar.T1 := by kernel_rfl
theorem spec_keFar.bits1 : waitsOk spec_keFar.T1.2 spec_keFar.B1 = true := by kernel_rfl
def spec_keFar.T23 : Bool × List (List Nat × List Nat) := (true, [([], []), ([], []), ([0, 1], [0, 1]), ([2], [2]), ([], []), ([], []), ([4, 5], [4, 5]), ([6], [6]), ([7], [7]), ([3, 8], [3, 8])])
def spec_keFar.B23 : List Nat := [0, 0, 3, 7, 0, 0, 48, 112, 240, 511]
theorem spec_keFar.tab23 : rtab .any (opsOf Tryz.f36 23) = spec_keFar.T23 := by kernel_rfl
theorem spec_keFar.bits23 : waitsOk spec_keFar.T23.2 spec_keFar.B23 = true := by kernel_rfl
def spec_keFar.T24 : Bool × List (List Nat × List Nat) := (true, [([], []), ([], []), ([0, 1], [0, 1]), ([2], [2]), ([], []), ([], []), ([4, 5], [4, 5]), ([6], [6]), ([3, 7], [3, 7]), ([0, 1, 0, 1, 2, 3, 4, 5, 6, 7, 8], [0, 1]), ([9, 8, 0, 1, 2, 3, 4, 5, 6, 7, 8], [8, 9])])
def spec_keFar.B24 : List Nat := [0, 0, 3, 7, 0, 0, 48, 112, 255, 511, 1023]
theorem spec_keFar.tab24 : rtab .any (opsOf Tryz.f36 24) = spec_keFar.T24 := by kernel_rfl
theorem spec_keFar.bits24 : waitsOk spec_keFar.T24.2 spec_keFar.B24 = true := by kernel_rfl
set_option maxHeartbeats 8000000 in
set_option maxRecDepth 100000 in
theorem spec_keFar.calls (k : Nat) (A0 : Option Addr) (c0 : Nat) (l0 : List ByteArray) (a1 : ByteArray) (r1 : List Int) (r2 : List Int) (w : World) (hr0 : Kd.C Kd.string w A0 l0.length l0) (hc0 : l0.length ≤ c0) (h : spec_keFar.f k l0 a1 = some (r1, r2)) :
  Calls Tryz.prog 36 #[.slice A0 l0.length c0, .string a1] w fun e w' => ∃ v0_ v1_ : Value, e = .returned (.tuple #[v0_, v1_]) ∧ Kd.R (Kd.int .i64) 3 w' w.heap.size (fun k_ => some k_ ≠ (v1_ : Value).ownBlock) v0_ r1 ∧ Kd.R (Kd.int .i64) 3 w' w.heap.size (fun k_ => some k_ ≠ (v0_ : Value).ownBlock) v1_ r2 ∧ Below w.heap.size w w' := by
 have HR0 := aM hr0
 have HC0 := aM hc0
 clear hr0 hc0
 have HB := aM (Below.refl w.heap.size w)
 have H := h; clear h; unfold spec_keFar.f at H
 obtain ⟨ji3, hji3⟩ : ∃ j_ : Int, (shl .i64 1 (a1.size : Int)) = j_ := ⟨_, rfl⟩
 replace H : (if 0 ≤ (ji3) then (if (ji3 : Int).toNat ≤ 35184372088832 then ((some (List.replicate (ji3 : Int).toNat 0 : List Int)).bind fun y171 => (spec_keFar.l0 k l0 a1 y171 (List.replicate (ji3 : Int).toNat 0) (y171.length : Int) 0)) else (none)) else (none)) = some (r1, r2) := by first | (rw [hji3] at H; exact H) | (simp only [hji3] at H ⊢; exact H)
 have hji3_ : (IntKind.i64.wrap (1 * 2 ^ min (a1.size : Int).toNat 64)) = ji3 := hji3
 have hji3z : (a1.size : Int) ≤ 64 → (IntKind.i64.wrap (1 * 2 ^ (a1.size : Int).toNat)) = ji3 := shl_small hji3
 have hji3p : (IntKind.i64.wrap (1 * 2 ^ min a1.size 64)) = ji3 := hji3_
 have hji3q : (a1.size : Int) ≤ 64 → (IntKind.i64.wrap (1 * 2 ^ a1.size)) = ji3 := hji3z
 have hji3r : (IntKind.i64.wrap (2 ^ min a1.size 64)) = ji3 := by have h_ := hji3p; rw [Int.one_mul] at h_; exact h_
 have hji3s : (a1.size : Int) ≤ 64 → (IntKind.i64.wrap (2 ^ a1.size)) = ji3 := fun hle_ => by have h_ := hji3q hle_; rw [Int.one_mul] at h_; exact h_
 have hji3u : (IntKind.i64.wrap (2 ^ min (a1.size : Int).toNat 64)) = ji3 := by have h_ := hji3_; rw [Int.one_mul] at h_; exact h_
 have hji3v : (a1.size : Int) ≤ 64 → (IntKind.i64.wrap (2 ^ (a1.size : Int).toNat)) = ji3 := fun hle_ => by have h_ := hji3z hle_; rw [Int.one_mul] at h_; exact h_
 have hji3y : (wrap64 (1 * 2 ^ min (a1.size : Int).toNat 64)) = ji3 := (i64_w _).symm.trans hji3_
 have hji3x : (a1.size : Int) ≤ 64 → (wrap64 (1 * 2 ^ (a1.size : Int).toNat)) = ji3 := fun h_ => (i64_w _).symm.trans (hji3z h_)
 replace H := iC H; obtain ⟨c4, H⟩ := H
 have c4b0 := eq_true c4
 have c4b1 := decide_eq_true c4
 clear c4
 replace H := iC H; obtain ⟨c5, H⟩ := H
 have c5b0 := eq_true c5
 have c5b1 := decide_eq_true c5
 clear c5
 replace H := jY H; obtain ⟨y171, Ny171, H⟩ := H
 obtain ⟨y174, Ny174, h_⟩ := yG (α := List Int) (List.replicate (ji3 : Int).toNat 0); rw [← h_] at H; clear h_
 have H' := aM H
 clear H
 go_enter Tryz.func36, Tryz.ntmps36
 try go_wp2
 replace HB := aM (below_drew1 HB.out)
 refine start_ (n := 10) (S := fun w' => True) (ds := []) #[F,F,F,F,F,F,F,F,F,F] (by kernel_rfl) rfl rfl trivial (fun hHeld => ?_); refine with_tabW spec_keFar.tab1 spec_keFar.bits1 (fun HT_ HW_ => ?_)
 generalize w.drew = w6 at HB hHeld ⊢
 refine pU 0 (some 17) #[T,F,F,F,F,F,F,F,F,F] HT_ ?_
 refine pU 1 (some 18) #[T,T,F,F,F,F,F,F,F,F] HT_ ?_
 refine pU 2 (some 19) #[T,T,T,F,F,F,F,F,F,F] HT_ ?_
 refine pU 4 (some 21) #[T,T,T,F,T,F,F,F,F,F] HT_ ?_
 refine pU 5 (some 22) #[T,T,T,F,T,T,F,F,F,F] HT_ ?_
 refine pU 6 (some 23) #[T,T,T,F,T,T,T,F,F,F] HT_ ?_
 refine join_ (σ := Value × Value) 1 #[T,T,T,T,T,T,T,T,T,F] (fun s_ => [(20, s_.1), (24, s_.2), (6, s_.1)]) (fun s_ w' => (Kd.R (Kd.int .i64) 3 w' w.heap.size (fun k_ => some k_ ≠ (s_.2 : Value).ownBlock) s_.1 y171) ∧ (Kd.R (Kd.int .i64) 3 w' w.heap.size (fun k_ => some k_ ≠ (s_.1 : Value).ownBlock) s_.2 y174) ∧ (Below w.heap.size w w')) ?_ ?_
 rotate_left
 ·intro hCont
  refine two_ (i := 3) (j := 7) (Ni := some 20) (Nj := some 24) #[T,T,T,T,T,T,T,F,F,F] #[T,T,T,F,T,T,T,T,F,F] rfl rfl rfl rfl (two_of HT_.out (by kernel_rfl)) (by decide) (by decide) (fun K hK => ?_) (fun K hK => ?_)
  ·skip
   refine Kd.R_make_step (Kd.int .i64) _ 3 (by rfl) (N := 20) rfl 36 _ _ rfl ji3 rfl rfl Tryz.underlying36 (.int .i64 0) 8 info3 rfl (by decide) (by omega) 0 (ok := fun _ => True) (okp := fun _ => True) rfl (fun _ hk => hk) trivial (oD) (Nat.le_trans (Nat.mul_le_mul_right _ (oD : ji3.toNat ≤ 35184372088832)) (by omega)) (Below.refl _ _) (Nat.le_refl _) ?_
   intro v172 w7 ho8 hb hg_ hnew_
   clear hg_ hnew_
   rw [← Ny171.out] at ho8
   have HO173 := aM (Kd.R_lower ho8 (below_size HB.out)); replace HB := aM (below_step HB.out hb); clear hb ho8
   refine hK.out _ _ trivial (fun hHeld => ?_)
   clear hK K
   refine norm_ (a' := ?_) ?_ ?_
   rotate_left
   ·show Act.put _ (some 20) _ = _
    simp only [Act.put, sA, sB, sC, i64_w, i32_w]
    rfl
   refine pU 8 (some 6) #[T,T,T,T,T,T,T,F,T,F] HT_ ?_
   refine one_ (i := 7) (N := some 24) #[T,T,T,T,T,T,T,T,T,F] rfl rfl (one_of HT_.out (by kernel_rfl)) (by decide) (fun K hK => ?_)
   refine Kd.R_make_step (Kd.int .i64) _ 3 (by rfl) (N := 24) rfl 36 _ _ rfl ji3 rfl rfl Tryz.underlying36 (.int .i64 0) 8 info3 rfl (by decide) (by omega) 0 (ok := fun _ => True) (okp := fun _ => True) rfl (fun _ hk => hk) trivial (oD) (Nat.le_trans (Nat.mul_le_mul_right _ (oD : ji3.toNat ≤ 35184372088832)) (by omega)) (Below.refl _ _) (Nat.le_refl _) ?_
   intro v175 w9 ho10 hb hg_ hnew_
   clear hg_ hnew_
   rw [← Ny174.out] at ho10
   have n0_ := aM (Kd.R_elder' HO173.out (Kd.R_base ho10) hb); have n1_ := aM (Kd.R_lower (Kd.R_new' ho10 (Kd.R_lt HO173.out)) (below_size HB.out)); have n2_ := aM (below_step HB.out hb); clear HO173 HB; have HO173 := n0_; have HO176 := n1_; have HB := n2_; clear n0_ n1_ n2_; clear hb ho10
   refine hK.out _ _ trivial (fun hHeld => ?_)
   clear hK K
   refine norm_ (a' := ?_) ?_ ?_
   rotate_left
   ·show Act.put _ (some 24) _ = _
    simp only [Act.put, sA, sB, sC, i64_w, i32_w]
    rfl
   exact norm_ (by simp only [putAll, Act.put, sA, sB, sC]) (hCont (v172, v175) _ ⟨(Kd.R_mono HO173.out (fun _ hk => hk.2)), (Kd.R_mono HO176.out (fun _ hk => hk.2)), HB.out⟩)
  ·skip
   refine Kd.R_make_step (Kd.int .i64) _ 3 (by rfl) (N := 24) rfl 36 _ _ rfl ji3 rfl rfl Tryz.underlying36 (.int .i64 0) 8 info3 rfl (by decide) (by omega) 0 (ok := fun _ => True) (okp := fun _ => True) rfl (fun _ hk => hk) trivial (oD) (Nat.le_trans (Nat.mul_le_mul_right _ (oD : ji3.toNat ≤ 35184372088832)) (by omega)) (Below.refl _ _) (Nat.le_refl _) ?_
   intro v175 w7 ho8 hb hg_ hnew_
   clear hg_ hnew_
   rw [← Ny174.out] at ho8
   have HO176 := aM (Kd.R_lower ho8 (below_size HB.out)); replace HB := aM (below_step HB.out hb); clear hb ho8
   refine hK.out _ _ trivial (fun hHeld => ?_)
   clear hK K
   refine norm_ (a' := ?_) ?_ ?_
   rotate_left
   ·show Act.put _ (some 24) _ = _
    simp only [Act.put, sA, sB, sC, i64_w, i32_w]
    rfl
   refine one_ (i := 3) (N := some 20) #[T,T,T,T,T,T,T,T,F,F] rfl rfl (one_of HT_.out (by kernel_rfl)) (by decide) (fun K hK => ?_)
   refine Kd.R_make_step (Kd.int .i64) _ 3 (by rfl) (N := 20) rfl 36 _ _ rfl ji3 rfl rfl Tryz.underlying36 (.int .i64 0) 8 info3 rfl (by decide) (by omega) 0 (ok := fun _ => True) (okp := fun _ => True) rfl (fun _ hk => hk) trivial (oD) (Nat.le_trans (Nat.mul_le_mul_right _ (oD : ji3.toNat ≤ 35184372088832)) (by omega)) (Below.refl _ _) (Nat.le_refl _) ?_
   intro v172 w9 ho10 hb hg_ hnew_
   clear hg_ hnew_
   rw [← Ny171.out] at ho10
   have n0_ := aM (Kd.R_elder' HO176.out (Kd.R_base ho10) hb); have n1_ := aM (Kd.R_lower (Kd.R_new' ho10 (Kd.R_lt HO176.out)) (below_size HB.out)); have n2_ := aM (below_step HB.out hb); clear HO176 HB; have HO176 := n0_; have HO173 := n1_; have HB := n2_; clear n0_ n1_ n2_; clear hb ho10
   refine hK.out _ _ trivial (fun hHeld => ?_)
   clear hK K
   refine norm_ (a' := ?_) ?_ ?_
   rotate_left
   ·show Act.put _ (some 20) _ = _
    simp only [Act.put, sA, sB, sC, i64_w, i32_w]
    rfl
   refine pU 8 (some 6) #[T,T,T,T,T,T,T,T,T,F] HT_ ?_
   exact norm_ (by simp only [putAll, Act.put, sA, sB, sC]) (hCont (v172, v175) _ ⟨(Kd.R_mono HO173.out (fun _ hk => hk.2)), (Kd.R_mono HO176.out (fun _ hk => hk.2)), HB.out⟩)
 rintro ⟨v172, v175⟩ w11 ⟨h0_, h1_, h2_⟩
 have n0_ : Aside0 (Kd.R (Kd.int .i64) 3 w11 w.heap.size (fun k_ => some k_ ≠ (v175 : Value).ownBlock) v172 y171) := ⟨h0_⟩; have n1_ : Aside0 (Kd.R (Kd.int .i64) 3 w11 w.heap.size (fun k_ => some k_ ≠ (v172 : Value).ownBlock) v175 y174) := ⟨h1_⟩; have n2_ : Aside0 (Below w.heap.size w w11) := ⟨h2_⟩; clear HB; clear h0_ h1_ h2_; have HO173 := n0_; have HO176 := n1_; have HB := n2_; clear n0_ n1_ n2_
 have hHeld := trivial
 refine norm_ (a' := ?_) ?_ ?_
 rotate_left
 ·simp only [putAll, Act.put, sA, sB, sC]
  rfl
 refine pU 9 (some 7) #[T,T,T,T,T,T,T,T,T,T] HT_ ?_
 refine done_ (done_of HT_.out (by kernel_rfl)) ?_
 obtain ⟨Ao12, co12, eo12⟩ := Kd.R_slice HO173.out
 subst eo12
 try go_wp2
 go_loopg [27] k (fun kq v27 w' => ∃ (x6_1 : List Int) (x27_1 : Int), v27 = .int .i64 x27_1 ∧ Aside0 (spec_keFar.l0 kq l0 a1 x6_1 y174 (y171.length : Int) x27_1 = some (r1, r2)) ∧ Aside0 (kq ≤ k) ∧ Aside0 (Kd.R (Kd.int .i64) 3 w' w.heap.size (fun k_ => some k_ ≠ (v175 : Value).ownBlock) (.slice Ao12 y171.length co12) x6_1) ∧ Aside0 (Kd.R (Kd.int .i64) 3 w' w.heap.size (fun k_ => some k_ ≠ ((.slice Ao12 y171.length co12) : Value).ownBlock) v175 y174) ∧ Aside0 (Below w.heap.size w w'))
 case atStart => exact ⟨(y171), (0), rfl, H', ⟨Nat.le_refl _⟩, HO173, HO176, HB⟩
 case round =>
  clear H'
  clear c4b0 c4b1 c5b0 c5b1
  obtain ⟨x6_1, x27_1, rfl, HA, HK1, HO_6, HO_7, HB⟩ := hrel
  have hl6_1 := (Kd.R_reads' HO_6.out).1
  rw [hl6_1] at HO_6
  (try simp only [hl6_1])
  (try simp only [hl6_1] at HO_7)
  cases gk with
  | zero => exact absurd HA.out (by simp [spec_keFar.l0])
  | succ k1 =>
   have H := HA.out
   clear HA
   simp only [spec_keFar.l0] at H
   replace H := iO H; obtain ⟨c13, H⟩ | ⟨c13, H⟩ := H
   ·have c13b0 := decide_eq_true c13
    (try (have c13m0 := c13b0; simp only [hl6_1] at c13m0))
    clear c13
    replace H := iC H; obtain ⟨c14, H⟩ := H
    have c14b0 := decide_eq_true c14
    clear c14
    replace H := iN H; obtain ⟨c15b0, H⟩ := H
    (try (have c15m0 := c15b0; simp only [hl6_1] at c15m0))
    obtain ⟨y177, Ny177, h_⟩ := yG (α := List Int) (x6_1.set (x27_1 : Int).toNat (-1)); rw [← h_] at H; clear h_
    have H' := aM H
    clear H; have p16 : 0 ≤ (x27_1 : Int) := of_decide_eq_true (by first | (with_reducible assumption) | assumption); have q16 : (x27_1 : Int) < ((x6_1.length : Int) : Int) := of_decide_eq_true (by first | (with_reducible assumption) | assumption)
    obtain ⟨go16, co16, eo16, gb16, gl16, cl16, HG16⟩ := Kd.R_form HO_6.out (by omega)
    (first | cases eo16 | (injection eo16 with ea_ en_ ec_; (first | subst ea_ | (injection ea_ with ea_; subst ea_)); subst ec_; clear en_))
    have GB16 := aM gb16
    have GG16 := aM HG16
    clear gb16 gl16 HG16; obtain ⟨hx16_0, hf16_0⟩ := Kd.R_celln 0 HO_6.out (x27_1 : Int) p16 q16; replace p16 := eq_true p16; replace q16 := eq_true q16
    have HP17 := Kd.R_putg HO_6.out (x27_1 : Int) (-1)
    go_wp2_with (first | ((with_reducible refine gate_store (t := 3) (p := 32) rfl ?_); refine store_event (t := 3) (p := 32) (v := ?vo_w18) (w1 := (wr.setCell ⟨go16, (x27_1 : Int).toNat, none⟩ (.int .i64 (-1)))) ?hg ?ho ?hn ?hr ?_; (case ho => rfl); (case hg => rfl); (case hn => rfl); (case hr => first | (go_simp; done) | (go_simp; rfl)); intro w18 hw; have hg : wr.grownBy w18 (some go16) := (by rw [hw]; exact HP17.2); have hp_ : Kd.R (Kd.int .i64) 3 w18 w.heap.size (fun k_ => some k_ ≠ (v175 : Value).ownBlock) (.slice (some ⟨go16, 0, none⟩) x6_1.length co12) y177 := (by rw [hw, Ny177.out]; exact HP17.1); clear HP17; have n0_ := aM (hp_); have n1_ := aM (Kd.R_after (v := (.slice (some ⟨go16, 0, none⟩) x6_1.length co12)) (v1 := (.slice (some ⟨go16, 0, none⟩) x6_1.length co12)) (ok := (fun _ => True)) (by (with_reducible repeat (first | apply rA | apply rN | apply rD)); exact Kd.R_mono HO_7.out (fun _ hk => ⟨trivial, hk⟩)) hg (.inl rfl)); have n2_ := aM ((by rw [hw]; exact below_set (HB.out) GB16.out : Below w.heap.size w w18)); clear HO_6; clear HO_7; clear HB; have HO_6 := n0_; have HO_7 := n1_; have HB := n2_; clear n0_ n1_ n2_; clear hg hw hp_))
    (try simp only [← hl6_1])
    go_roundg k1
    case measure => have := HK1.out; omega
    case rel => exact ⟨(y177), (wrap64 (x27_1 + 1)), (by first | rfl | (simp; done) | (simp [*]; done)), H', ⟨by have := HK1.out; omega⟩, ⟨by (try simp only [hl6_1]); (with_reducible repeat (first | apply rA | apply rN | apply rD)); exact HO_6.out⟩, ⟨by (try simp only [hl6_1]); (with_reducible repeat (first | apply rA | apply rN | apply rD)); exact Kd.R_mono HO_7.out (fun _ hk => hk.2)⟩, ⟨by repeat (first | (with_reducible first | exact HB.out | apply bA | apply bN | apply bD) | exact HB.out)⟩⟩
   ·have c13b0 := decide_eq_false c13
    (try (have c13m0 := c13b0; simp only [hl6_1] at c13m0))
    clear c13
    replace H := jS H; obtain ⟨t178, A19, H⟩ := H
    replace H := iC H; obtain ⟨c20, H⟩ := H
    have c20b0 := decide_eq_true c20
    clear c20
    replace H := iC H; obtain ⟨c21, H⟩ := H
    have c21b0 := decide_eq_true c21
    (try (have c21m0 := c21b0; simp only [hl6_1] at c21m0))
    clear c21
    obtain ⟨y179, Ny179, h_⟩ := yG (α := List Int) (x6_1.set (t178 : Int).toNat 0); rw [← h_] at H; clear h_
    replace H := iC H; obtain ⟨c23, H⟩ := H
    have c23b0 := decide_eq_true c23
    (try (have c23m0 := c23b0; simp only [hl6_1] at c23m0))
    clear c23
    obtain ⟨y180, Ny180, h_⟩ := yG (α := List Int) (y174.set (t178 : Int).toNat 1); rw [← h_] at H; clear h_
    obtain ⟨y181, Ny181, h_⟩ := yG (α := List ByteArray) (([a1] : List ByteArray)); rw [← h_] at H; clear h_
    have H' := aM H
    clear H
    go_wp2_with (first | ((with_reducible refine gate_callee (f := 70) rfl ?_); refine goesL_ (some 35) rfl rfl Tryz.func70 (by kernel_rfl) rfl #[.string a1] rfl (by (try simp only [List.map_toArray, List.map_cons, List.map_nil]); first | done | rfl | (simp only [List.length_drop, List.length_take]; rfl)) ?_; (with_reducible refine (spec_riNumber.calls k1 a1 t178 _ A19.out).mono ?_); rintro e w' ⟨rfl, ⟨nd, rfl⟩⟩; refine ⟨_, rfl, ?_⟩; (try (rw [drewN_self wr]; generalize hq_ : World.drewN wr _ = wr; have n0_ : Aside0 (Kd.R (Kd.int .i64) 3 wr w.heap.size (fun k_ => some k_ ≠ (v175 : Value).ownBlock) (.slice Ao12 x6_1.length co12) x6_1) := ⟨by rw [← hq_]; exact (by (with_reducible repeat (first | apply rA | apply rN | apply rD)); exact HO_6.out)⟩; have n1_ : Aside0 (Kd.R (Kd.int .i64) 3 wr w.heap.size (fun k_ => some k_ ≠ (.slice Ao12 x6_1.length co12 : Value).ownBlock) v175 y174) := ⟨by rw [← hq_]; exact (by (with_reducible repeat (first | apply rA | apply rN | apply rD)); exact HO_7.out)⟩; have n2_ : Aside0 (Below w.heap.size w wr) := ⟨by rw [← hq_]; exact (by repeat (first | (with_reducible first | exact HB.out | apply bA | apply bN | apply bD) | exact HB.out))⟩; clear HO_6 HO_7 HB hq_; have HO_6 := n0_; have HO_7 := n1_; have HB := n2_; clear n0_ n1_ n2_)); have p22 : 0 ≤ (t178 : Int) := of_decide_eq_true (by first | (with_reducible assumption) | assumption); have q22 : (t178 : Int) < ((x6_1.length : Int) : Int) := of_decide_eq_true (by first | (with_reducible assumption) | assumption); obtain ⟨go22, co22, eo22, gb22, gl22, cl22, HG22⟩ := Kd.R_form HO_6.out (by omega); (first | cases eo22 | (injection eo22 with ea_ en_ ec_; (first | subst ea_ | (injection ea_ with ea_; subst ea_)); subst ec_; clear en_)); have GB22 := aM gb22; have GG22 := aM HG22; clear gb22 gl22 HG22; obtain ⟨hx22_0, hf22_0⟩ := Kd.R_celln 0 HO_6.out (t178 : Int) p22 q22; replace p22 := eq_true p22; replace q22 := eq_true q22; obtain ⟨hy25_, hz25_⟩ := Kd.R_celln 0 HO_6.out (t178 : Int) (of_decide_eq_true (by first | (with_reducible assumption) | assumption)) (of_decide_eq_true (by first | (with_reducible assumption) | assumption)); have HP25 := Kd.R_putg HO_6.out (t178 : Int) 0) | ((with_reducible refine gate_store (t := 3) (p := 38) rfl ?_); refine store_event (t := 3) (p := 38) (v := ?vo_w26) (w1 := (wr.setCell ⟨go22, (t178 : Int).toNat, none⟩ (.int .i64 0))) ?hg ?ho ?hn ?hr ?_; (case ho => rfl); (case hg => rfl); (case hn => rfl); (case hr => first | (go_simp; done) | (go_simp; rfl)); intro w26 hw; have hg : wr.grownBy w26 (some go22) := (by rw [hw]; exact HP25.2); have hp_ : Kd.R (Kd.int .i64) 3 w26 w.heap.size (fun k_ => some k_ ≠ (v175 : Value).ownBlock) (.slice (some ⟨go22, 0, none⟩) x6_1.length co12) y179 := (by rw [hw, Ny179.out]; exact HP25.1); clear HP25; have n0_ := aM (hp_); have n1_ := aM (Kd.R_after (v := (.slice (some ⟨go22, 0, none⟩) x6_1.length co12)) (v1 := (.slice (some ⟨go22, 0, none⟩) x6_1.length co12)) (ok := (fun _ => True)) (by (with_reducible repeat (first | apply rA | apply rN | apply rD)); exact Kd.R_mono HO_7.out (fun _ hk => ⟨trivial, hk⟩)) hg (.inl rfl)); have n2_ := aM ((by rw [hw]; exact below_set (HB.out) GB22.out : Below w.heap.size w w26)); clear HO_6; clear HO_7; clear HB; have HO_6 := n0_; have HO_7 := n1_; have HB := n2_; clear n0_ n1_ n2_; clear hg hw hp_; have p24 : 0 ≤ (t178 : Int) := of_decide_eq_true (by first | (with_reducible assumption) | assumption); have q24 : (t178 : Int) < ((y174.length : Int) : Int) := of_decide_eq_true (by first | (with_reducible assumption) | assumption); obtain ⟨go24, co24, eo24, gb24, gl24, cl24, HG24⟩ := Kd.R_form HO_7.out (by omega); (first | cases eo24 | (injection eo24 with ea_ en_ ec_; (first | subst ea_ | (injection ea_ with ea_; subst ea_)); subst ec_; clear en_)); have GB24 := aM gb24; have GG24 := aM HG24; clear gb24 gl24 HG24; obtain ⟨hx24_0, hf24_0⟩ := Kd.R_celln 0 HO_7.out (t178 : Int) p24 q24; replace p24 := eq_true p24; replace q24 := eq_true q24; have n_ := aM (Kd.R_mono (ok' := (fun k_ => some k_ ≠ (.slice (some ⟨go22, 0, none⟩) x6_1.length co12 : Value).ownBlock)) HO_7.out (fun k_ hk => hk.2)); clear HO_7; have HO_7 := n_; clear n_; obtain ⟨hy27_, hz27_⟩ := Kd.R_celln 0 HO_7.out (t178 : Int) (of_decide_eq_true (by first | (with_reducible assumption) | assumption)) (of_decide_eq_true (by first | (with_reducible assumption) | assumption)); have HP27 := Kd.R_putg HO_7.out (t178 : Int) 1) | ((with_reducible refine gate_store (t := 3) (p := 41) rfl ?_); refine store_event (t := 3) (p := 41) (v := ?vo_w28) (w1 := (w26.setCell ⟨go24, (t178 : Int).toNat, none⟩ (.int .i64 1))) ?hg ?ho ?hn ?hr ?_; (case ho => rfl); (case hg => rfl); (case hn => rfl); (case hr => first | (go_simp; done) | (go_simp; rfl)); intro w28 hw; have hg : w26.grownBy w28 (some go24) := (by rw [hw]; exact HP27.2); have hp_ : Kd.R (Kd.int .i64) 3 w28 w.heap.size (fun k_ => some k_ ≠ (.slice (some ⟨go22, 0, none⟩) x6_1.length co12 : Value).ownBlock) (.slice (some ⟨go24, 0, none⟩) y174.length co24) y180 := (by rw [hw, Ny180.out]; exact HP27.1); clear HP27; have n0_ := aM (Kd.R_after (v := (.slice (some ⟨go24, 0, none⟩) y174.length co24)) (v1 := (.slice (some ⟨go24, 0, none⟩) y174.length co24)) (ok := (fun _ => True)) (by (with_reducible repeat (first | apply rA | apply rN | apply rD)); exact Kd.R_mono HO_6.out (fun _ hk => ⟨trivial, hk⟩)) hg (.inl rfl)); have n1_ := aM (hp_); have n2_ := aM ((by rw [hw]; exact below_set (HB.out) GB24.out : Below w.heap.size w w28)); clear HO_6; clear HO_7; clear HB; have HO_6 := n0_; have HO_7 := n1_; have HB := n2_; clear n0_ n1_ n2_; clear hg hw hp_) | ((with_reducible refine gate_dst (N := 43) rfl ?_); refine Kd.R_lit Kd.string _ 9 ?hg (N := 43) ?hd (xs := ([a1] : List ByteArray)) (inner := [.string a1]) (ok := fun _ => True) (okp := fun _ => True) ?hr ?hp (fun _ hk => hk) trivial (Below.refl _ _) (Nat.le_refl _) (by simp) ?_; (case hd => rfl); (case hg => rfl); (case hr => first | (go_simp; done) | (go_simp; rfl)); (case hp => exact (Reps.one (show Kd.M Kd.string _ _ _ a1 [.string a1] from rfl) (Reps.none _ _))); intro v182 w29 ho30 hb hg_ hnew_; clear hg_ hnew_; (first | rw [← Ny181.out] at ho30 | (simp only [Int.reduceToNat] at ho30; rw [← Ny181.out] at ho30)); have n0_ := aM (Kd.R_below (by (with_reducible repeat (first | apply rA | apply rN | apply rD)); exact HO_6.out) hb); have n1_ := aM (Kd.R_below (by (with_reducible repeat (first | apply rA | apply rN | apply rD)); exact HO_7.out) hb); have n2_ := aM (Kd.R_lower ho30 (below_size (by repeat (first | (with_reducible first | exact HB.out | apply bA | apply bN | apply bD) | exact HB.out)))); have n3_ := aM (below_step (by repeat (first | (with_reducible first | exact HB.out | apply bA | apply bN | apply bD) | exact HB.out)) hb); clear HO_6; clear HO_7; clear HB; have HO_6 := n0_; have HO_7 := n1_; have HO183 := n2_; have HB := n3_; clear n0_ n1_ n2_ n3_; clear hb ho30))
    go_loopg [10, 11] k1 (fun kq v10 v11 w' => ∃ (x6_2 : List Int) (x7_2 : List Int) (x10_2 : List ByteArray) (x11_2 : Int), v11 = .int .i64 x11_2 ∧ Aside0 (spec_keFar.l1 kq l0 x6_2 x7_2 x10_2 x11_2 = some (r1, r2)) ∧ Aside0 (kq ≤ k1) ∧ Aside0 (Kd.R (Kd.int .i64) 3 w' w.heap.size (fun k_ => some k_ ≠ ((.slice (some ⟨go24, 0, none⟩) y174.length co24) : Value).ownBlock) (.slice (some ⟨go22, 0, none⟩) x6_1.length co12) x6_2) ∧ Aside0 (Kd.R (Kd.int .i64) 3 w' w.heap.size (fun k_ => some k_ ≠ ((.slice (some ⟨go22, 0, none⟩) x6_1.length co12) : Value).ownBlock) (.slice (some ⟨go24, 0, none⟩) y174.length co24) x7_2) ∧ Aside0 (Kd.R Kd.string 9 w' w.heap.size (fun _ => True) v10 x10_2) ∧ Aside0 (Below w.heap.size w w'))
    case atStart => exact ⟨(y179), (y180), (y181), (0), rfl, H', ⟨Nat.le_refl _⟩, ⟨Kd.R_mono HO_6.out (fun _ hk => hk.2)⟩, HO_7, HO183, HB⟩
    case round =>
     clear H'
     clear c13b0 c20b0 c21b0 p22 q22 c23b0 p24 q24 hx22_0 hx24_0
     obtain ⟨x6_2, x7_2, x10_2, x11_2, rfl, HA, HK2, HO_6, HO_7, HO_10, HB⟩ := hrel
     have hl6_2 := (Kd.R_reads' HO_6.out).1
     rw [hl6_2] at HO_6
     (try simp only [hl6_2])
     (try simp only [hl6_2] at HO_7)
     (try simp only [hl6_2] at HO_10)
     have hl7_2 := (Kd.R_reads' HO_7.out).1
     rw [hl7_2] at HO_7
     (try simp only [hl7_2])
     (try simp only [hl7_2] at HO_6)
     (try simp only [hl7_2] at HO_10)
     cases gk with
     | zero => exact absurd HA.out (by simp [spec_keFar.l1])
     | succ k2 =>
      have H := HA.out
      clear HA
      simp only [spec_keFar.l1] at H
      replace H := iO H; obtain ⟨c31, H⟩ | ⟨c31, H⟩ := H
      ·have c31b0 := decide_eq_true c31
       (try (have c31m0 := c31b0; simp only [hl6_1] at c31m0)); (try (have c31m1 := c31b0; simp only [hl6_2] at c31m1)); (try (have c31m2 := c31b0; simp only [hl7_2] at c31m2))
       clear c31
       replace H := iC H; obtain ⟨c32, H⟩ := H
       have c32b0 := decide_eq_true c32
       clear c32
       replace H := jS H; obtain ⟨t185, A33, H⟩ := H
       replace H := jS H; obtain ⟨t187, A34, H⟩ := H
       have H' := aM H
       clear H
       obtain ⟨Ao35, co35, eo35⟩ := Kd.R_slice HO_10.out
       subst eo35
       obtain ⟨ad184, e184, hx184_0, p184, q184⟩ := aZ (Kd.at_string (Kd.R_reads' HO_10.out).2.2 x11_2); cases e184
       go_wp2_with (first | ((with_reducible refine gC 70 rfl ?_); refine gL (some 54) Tryz.func70 #[.string (rdOf ByteArray.empty x10_2 x11_2)] ?_; (with_reducible refine (spec_riNumber.calls k2 (rdOf ByteArray.empty x10_2 x11_2) t185 _ A33.out).mono ?_); rintro e w' ⟨rfl, ⟨nd, rfl⟩⟩; refine ⟨_, rfl, ?_⟩; obtain ⟨ad186, e186, hx186_0, p186, q186⟩ := aZ (Kd.at_string (Kd.R_reads' HO_10.out).2.2 x11_2); cases e186) | ((with_reducible refine gC 71 rfl ?_); refine gL (some 60) Tryz.func71 #[.slice A0 l0.length c0, .string (rdOf ByteArray.empty x10_2 x11_2)] ?_; (with_reducible refine (spec_keMoves.calls k2 _ _ l0 (rdOf ByteArray.empty x10_2 x11_2) t187 _ ?side1 ?side2 A34.out).mono ?_); (case side1 => repeat first | exact Kd.C_below HR0.out bQ | refine cA ?_ _ | refine cN ?_ _ | refine cD ?_); (case side2 => exact HC0.out); rintro e w36 ⟨v188, rfl, ho0, hb⟩; refine ⟨_, rfl, ?_⟩; have n0_ := aM (Kd.R_elder' (rQ HO_6.out) (Kd.R_base ho0) hb); have n1_ := aM (Kd.R_elder' (rQ HO_7.out) (Kd.R_base ho0) hb); have n2_ := aM (Kd.R_below (rQ HO_10.out) hb); have n3_ := aM (Kd.R_lower (Kd.R_new' (Kd.R_new' ho0 (Kd.R_lt (rQ HO_6.out))) (Kd.R_lt (rQ HO_7.out))) (below_size bQ)); have n4_ := aM (below_step bQ hb); clear HO_6; clear HO_7; clear HO_10; clear HB; have HO_6 := n0_; have HO_7 := n1_; have HO_10 := n2_; have HO189 := n3_; have HB := n4_; clear n0_ n1_ n2_ n3_ n4_; (try clear hb); (try clear hb2); (try clear hk); (try clear hi); (try clear ho0); obtain ⟨Ao37, co37, eo37⟩ := Kd.R_slice HO189.out; subst eo37))
       go_loopg [10, 62] k2 (fun kq v10 v62 w' => ∃ (x6_3 : List Int) (x7_3 : List Int) (x10_3 : List ByteArray) (x62_3 : Int), v62 = .int .i64 x62_3 ∧ Aside0 (spec_keFar.l2 kq l0 x6_3 x7_3 x10_3 x11_2 t185 t187 (t187.length : Int) x62_3 = some (r1, r2)) ∧ Aside0 (kq ≤ k2) ∧ Aside0 (Kd.R (Kd.int .i64) 3 w' w.heap.size (fun k_ => some k_ ≠ ((.slice (some ⟨go24, 0, none⟩) x7_2.length co24) : Value).ownBlock ∧ some k_ ≠ ((.slice Ao37 t187.length co37) : Value).ownBlock) (.slice (some ⟨go22, 0, none⟩) x6_2.length co12) x6_3) ∧ Aside0 (Kd.R (Kd.int .i64) 3 w' w.heap.size (fun k_ => some k_ ≠ ((.slice (some ⟨go22, 0, none⟩) x6_2.length co12) : Value).ownBlock ∧ some k_ ≠ ((.slice Ao37 t187.length co37) : Value).ownBlock) (.slice (some ⟨go24, 0, none⟩) x7_2.length co24) x7_3) ∧ Aside0 (Kd.R Kd.string 9 w' w.heap.size (fun _ => True) v10 x10_3) ∧ Aside0 (Kd.R (Kd.int .i64) 3 w' w.heap.size (fun k_ => some k_ ≠ ((.slice (some ⟨go22, 0, none⟩) x6_2.length co12) : Value).ownBlock ∧ some k_ ≠ ((.slice (some ⟨go24, 0, none⟩) x7_2.length co24) : Value).ownBlock) (.slice Ao37 t187.length co37) t187) ∧ Aside0 (Below w.heap.size w w'))
       case atStart => exact ⟨(x6_2), (x7_2), (x10_2), (0), rfl, H', ⟨Nat.le_refl _⟩, HO_6, HO_7, HO_10, ⟨by (try simp only [hl6_1]); (try simp only [hl6_2]); (try simp only [hl7_2]); (with_reducible repeat (first | apply rA | apply rN | apply rD)); exact Kd.R_mono HO189.out (fun _ hk => ⟨hk.1.2, hk.2⟩)⟩, HB⟩
       case round =>
        clear H'
        clear c31b0 c32b0 hx184_0 hx186_0 p184 p186 q184 q186
        obtain ⟨x6_3, x7_3, x10_3, x62_3, rfl, HA, HK3, HO_6, HO_7, HO_10, HO_60, HB⟩ := hrel
        have hl6_3 := (Kd.R_reads' HO_6.out).1
        rw [hl6_3] at HO_6
        (try simp only [hl6_3])
        (try simp only [hl6_3] at HO_7)
        (try simp only [hl6_3] at HO_10)
        (try simp only [hl6_3] at HO_60)
        have hl7_3 := (Kd.R_reads' HO_7.out).1
        rw [hl7_3] at HO_7
        (try simp only [hl7_3])
        (try simp only [hl7_3] at HO_6)
        (try simp only [hl7_3] at HO_10)
        (try simp only [hl7_3] at HO_60)
        cases gk with
        | zero => exact absurd HA.out (by simp [spec_keFar.l2])
        | succ k3 =>
         have H := HA.out
         clear HA
         simp only [spec_keFar.l2] at H
         replace H := iO H; obtain ⟨c38, H⟩ | ⟨c38, H⟩ := H
         ·have c38b0 := decide_eq_true c38
          (try (have c38m0 := c38b0; simp only [hl6_1] at c38m0)); (try (have c38m1 := c38b0; simp only [hl6_2] at c38m1)); (try (have c38m2 := c38b0; simp only [hl7_2] at c38m2)); (try (have c38m3 := c38b0; simp only [hl6_3] at c38m3)); (try (have c38m4 := c38b0; simp only [hl7_3] at c38m4))
          clear c38
          replace H := iC H; obtain ⟨c39, H⟩ := H
          have c39b0 := decide_eq_true c39
          clear c39
          replace H := iC H; obtain ⟨c40, H⟩ := H
          have c40b0 := decide_eq_true c40
          (try (have c40m0 := c40b0; simp only [hl6_1] at c40m0)); (try (have c40m1 := c40b0; simp only [hl6_2] at c40m1)); (try (have c40m2 := c40b0; simp only [hl7_2] at c40m2)); (try (have c40m3 := c40b0; simp only [hl6_3] at c40m3)); (try (have c40m4 := c40b0; simp only [hl7_3] at c40m4))
          clear c40
          replace H := iC H; obtain ⟨c41, H⟩ := H
          have c41b0 := decide_eq_true c41
          clear c41
          replace H := iN H; obtain ⟨c42b0, H⟩ := H
          (try (have c42m0 := c42b0; simp only [hl6_1] at c42m0)); (try (have c42m1 := c42b0; simp only [hl6_2] at c42m1)); (try (have c42m2 := c42b0; simp only [hl7_2] at c42m2)); (try (have c42m3 := c42b0; simp only [hl6_3] at c42m3)); (try (have c42m4 := c42b0; simp only [hl7_3] at c42m4))
          replace H := jS H; obtain ⟨t192, A43, H⟩ := H
          replace H := jS H; obtain ⟨t193, A44, H⟩ := H
          replace H := iC H; obtain ⟨c45, H⟩ := H
          have c45b0 := decide_eq_true c45
          clear c45
          replace H := iC H; obtain ⟨c46, H⟩ := H
          have c46b0 := decide_eq_true c46
          (try (have c46m0 := c46b0; simp only [hl6_1] at c46m0)); (try (have c46m1 := c46b0; simp only [hl6_2] at c46m1)); (try (have c46m2 := c46b0; simp only [hl7_2] at c46m2)); (try (have c46m3 := c46b0; simp only [hl6_3] at c46m3)); (try (have c46m4 := c46b0; simp only [hl7_3] at c46m4))
          clear c46
          replace H := iO H; obtain ⟨c47, H⟩ | ⟨c47, H⟩ := H
          ·have c47b0 := decide_eq_true c47
           clear c47
           replace H := iC H; obtain ⟨c48, H⟩ := H
           have c48b0 := decide_eq_true c48
           clear c48
           replace H := iN H; obtain ⟨c49b0, H⟩ := H
           (try (have c49m0 := c49b0; simp only [hl6_1] at c49m0)); (try (have c49m1 := c49b0; simp only [hl6_2] at c49m1)); (try (have c49m2 := c49b0; simp only [hl7_2] at c49m2)); (try (have c49m3 := c49b0; simp only [hl6_3] at c49m3)); (try (have c49m4 := c49b0; simp only [hl7_3] at c49m4))
           replace H := jY H; obtain ⟨y196, Ny196, H⟩ := H
           replace H := iC H; obtain ⟨c51, H⟩ := H
           have LMc51 := aM c51
           clear c51
           replace H := jY H; obtain ⟨y197, Ny197, H⟩ := H
           replace H := iO H; obtain ⟨c52, H⟩ | ⟨c52, H⟩ := H
           ·have c52b0 : ((rd y196 t193) == (wrap64 ((rd y196 t185) + 1))) = true := beq_iff_eq.mpr c52
            have c52b1 : ((rd y196 t193) != (wrap64 ((rd y196 t185) + 1))) = false := bne_eq_false_iff_eq.mpr c52
            clear c52
            replace H := iC H; obtain ⟨c53, H⟩ := H
            have c53b0 := decide_eq_true c53
            (try (have c53m0 := c53b0; simp only [hl6_1] at c53m0)); (try (have c53m1 := c53b0; simp only [hl6_2] at c53m1)); (try (have c53m2 := c53b0; simp only [hl7_2] at c53m2)); (try (have c53m3 := c53b0; simp only [hl6_3] at c53m3)); (try (have c53m4 := c53b0; simp only [hl7_3] at c53m4))
            clear c53
            replace H := iN H; obtain ⟨c54b0, H⟩ := H
            (try (have c54m0 := c54b0; simp only [hl6_1] at c54m0)); (try (have c54m1 := c54b0; simp only [hl6_2] at c54m1)); (try (have c54m2 := c54b0; simp only [hl7_2] at c54m2)); (try (have c54m3 := c54b0; simp only [hl6_3] at c54m3)); (try (have c54m4 := c54b0; simp only [hl7_3] at c54m4))
            obtain ⟨y204, hy204⟩ : ∃ y_ : List Int, y_ = (x7_3.set (t193 : Int).toNat (wrap64 ((rd x7_3 t193) + (rd x7_3 t185)))) := ⟨_, rfl⟩
            replace H : (spec_keFar.l2 k3 l0 y196 y204 y197 x11_2 t185 t187 (t187.length : Int) (wrap64 (x62_3 + 1))) = some (r1, r2) := by first | (rw [hy204]; with_reducible exact H) | (have H2_ := (Option.bind_some _ _).symm.trans H; rw [hy204]; with_reducible exact H2_) | (have H2_ := (Option.bind_some _ _).symm.trans H; with_reducible exact H2_) | with_reducible exact H | (rw [hy204]; exact H) | exact H
            have Ny204 := aM hy204
            clear hy204
            have H' := aM H
            clear H; have p190 : 0 ≤ (x62_3 : Int) := of_decide_eq_true (by first | (with_reducible assumption) | assumption); have q190 : x62_3 < (t187.length : Int) := of_decide_eq_true (by first | (with_reducible assumption) | assumption); obtain ⟨ad190, e190, hx190_0⟩ := Kd.at_int (Kd.R_reads' HO_60.out).2.2 x62_3 p190 q190; cases e190; replace p190 := eq_true p190; replace q190 := eq_true q190
            obtain ⟨Ao56, co56, eo56⟩ := Kd.R_slice HO_10.out
            subst eo56
            obtain ⟨ad191, e191, hx191_0, p191, q191⟩ := aZ (Kd.at_string (Kd.R_reads' HO_10.out).2.2 x11_2); cases e191
            try go_wp2_with (first | ((with_reducible refine gC 72 rfl ?_); refine gL (some 71) Tryz.func72 #[.string (rdOf ByteArray.empty x10_3 x11_2), .int .i64 (rd t187 x62_3)] ?_; (with_reducible refine (spec_riMove.calls (rdOf ByteArray.empty x10_3 x11_2) (rd t187 x62_3) t192 _ A43.out).mono ?_); rintro e w' ⟨rfl, ⟨nd, rfl⟩⟩; refine ⟨_, rfl, ?_⟩; (try (rw [drewN_self wr]; generalize hq_ : World.drewN wr _ = wr; replace HO_6 := dR hq_ HO_6; replace HO_7 := dR hq_ HO_7; replace HO_10 := dR hq_ HO_10; replace HO_60 := dR hq_ HO_60; replace HB := dB hq_ HB; clear hq_))) | ((with_reducible refine gC 70 rfl ?_); refine gL (some 73) Tryz.func70 #[.string t192] ?_; (with_reducible refine (spec_riNumber.calls k3 t192 t193 _ A44.out).mono ?_); rintro e w' ⟨rfl, ⟨nd, rfl⟩⟩; refine ⟨_, rfl, ?_⟩; (try (rw [drewN_self wr]; generalize hq_ : World.drewN wr _ = wr; replace HO_6 := dR hq_ HO_6; replace HO_7 := dR hq_ HO_7; replace HO_10 := dR hq_ HO_10; replace HO_60 := dR hq_ HO_60; replace HB := dB hq_ HB; clear hq_)); obtain ⟨hx194_0, p194, q194⟩ := aY (Kd.at_int (Kd.R_reads' HO_6.out).2.2 t193); obtain ⟨hx195_0, p195, q195⟩ := aY (Kd.at_int (Kd.R_reads' HO_6.out).2.2 t185); obtain ⟨hx50_0, hf50_0, p50, q50⟩ := aC (Kd.R_celln 0 HO_6.out (t193 : Int)); obtain ⟨hy57_, hz57_⟩ := Kd.R_celln 0 HO_6.out (t193 : Int) (oD) (oD); have HP57 := Kd.R_putg HO_6.out (t193 : Int) (wrap64 ((rd x6_3 t185) + 1))) | ((with_reducible refine gate_store (t := 3) (p := 86) rfl ?_); refine store_event (t := 3) (p := 86) (v := ?vo_w58) (w1 := (wr.setCell ⟨go22, (t193 : Int).toNat, none⟩ (.int .i64 (wrap64 ((rd x6_3 t185) + 1))))) ?hg ?ho ?hn ?hr ?_; (case ho => rfl); (case hg => rfl); (case hn => rfl); (case hr => go_simp); intro w58 hw; have hg : wr.grownBy w58 (some go22) := (by rw [hw]; exact HP57.2); have hp_ : Kd.R (Kd.int .i64) 3 w58 w.heap.size (fun k_ => some k_ ≠ (.slice (some ⟨go24, 0, none⟩) x7_3.length co24 : Value).ownBlock ∧ some k_ ≠ (.slice (some ad190) t187.length co37 : Value).ownBlock) (.slice (some ⟨go22, 0, none⟩) x6_3.length co12) y196 := (by rw [hw, Ny196.out]; exact HP57.1); clear HP57; replace HO_7 := aM (Kd.R_after (v := (.slice (some ⟨go22, 0, none⟩) x6_3.length co12)) (v1 := (.slice (some ⟨go22, 0, none⟩) x6_3.length co12)) (ok := (fun k_ => some k_ ≠ (.slice (some ad190) t187.length co37 : Value).ownBlock)) (Kd.R_mono HO_7.out (fun _ hk => ⟨hk.2, hk.1⟩)) hg (.inl rfl)); replace HO_10 := aM (Kd.R_over' (v := (.slice (some ⟨go22, 0, none⟩) x6_3.length co12)) HO_10.out (Kd.R_typed HO_6.out) (by decide) hg); replace HO_6 := aM (hp_); replace HO_60 := aM (Kd.R_after (v := (.slice (some ⟨go22, 0, none⟩) x6_3.length co12)) (v1 := (.slice (some ⟨go22, 0, none⟩) x6_3.length co12)) (ok := (fun k_ => some k_ ≠ (.slice (some ⟨go24, 0, none⟩) x7_3.length co24 : Value).ownBlock)) (Kd.R_mono HO_60.out (fun _ hk => ⟨hk.2, hk.1⟩)) hg (.inl rfl)); replace HB := aM ((by rw [hw]; exact below_set (HB.out) GB22.out : Below w.heap.size w w58)); clear hg hw hp_) | ((with_reducible refine gate_builtin (b := .append) (xs := #[.tmp 87, .tmp 89]) rfl ?_); at_builtin; refine Kd.R_append Kd.string (w0 := w) w.heap.size rfl (.tmp 87) (.tmp 89) 22 9 (.string ⟨#[]⟩) 16 rfl Tryz.underlying22 info9 rfl (by decide) (by omega) (.slice (some ad191) x10_3.length co56) x10_3 t192 [.string t192] (fun _ => True) (fun _ => False) rfl rfl ?aP (fun _ hk => hk.elim) ?aF ?aO ?aB ?aS ?aL ?_; (case aP => exact rfl); (case aB => exact HB.out); (case aF => exact (fun _ _ => trivial)); (case aO => exact HO_10.out); (case aS => exact (below_size HB.out)); (case aL => have := LMc51.out; omega); intro v198 w59 ho hb hg hat; rw [← Ny197.out] at ho; replace HO_6 := aM (Kd.R_over' HO_6.out (Kd.R_typed HO_10.out) (by decide) hg); replace HO_7 := aM (Kd.R_over' HO_7.out (Kd.R_typed HO_10.out) (by decide) hg); replace HO_60 := aM (Kd.R_over' HO_60.out (Kd.R_typed HO_10.out) (by decide) hg); replace HB := aM (hb); have HO199 := aM (ho); clear ho hb hg hat))
            have n0_ := aM (Kd.R_drew HO_6.out); have n1_ := aM (Kd.R_drew HO_7.out); have n2_ := aM (Kd.R_drew HO_60.out); have n3_ := aM (Kd.R_drew HO199.out); have n4_ := aM (below_drew1 HB.out); clear HO_6 HO_7 HO_60 HO199 HB; have HO_6 := n0_; have HO_7 := n1_; have HO_60 := n2_; have HO199 := n3_; have HB := n4_; clear n0_ n1_ n2_ n3_ n4_; have p200 : 0 ≤ (t193 : Int) := oD
            have q200 : t193 < (y196.length : Int) := (by have h_ : (t193 : Int) < ((x6_3.length : Int) : Int) := oD; first | (have e_ := (Kd.R_reads' HO_6.out).1; omega) | simpa only [Ny196.out, List.length_set] using h_)
            have ql200 : ((t193 : Int) < ((x6_3.length : Int) : Int)) = True := eq_true (oD)
            obtain ⟨ad200, e200, hx200_0⟩ := Kd.at_int (Kd.R_reads' HO_6.out).2.2 t193 p200 q200; obtain rfl : (⟨go22, 0, none⟩ : Addr) = ad200 := (by injection e200); (first | simp only [add_plain] at hx200_0 | simp only [add_at] at hx200_0 | simp only [Addr.add, Nat.zero_add] at hx200_0 | skip); replace p200 := eq_true p200; replace q200 := eq_true q200; have p201 : 0 ≤ (t185 : Int) := oD
            have q201 : t185 < (y196.length : Int) := (by have h_ : (t185 : Int) < ((x6_3.length : Int) : Int) := oD; first | (have e_ := (Kd.R_reads' HO_6.out).1; omega) | simpa only [Ny196.out, List.length_set] using h_)
            have ql201 : ((t185 : Int) < ((x6_3.length : Int) : Int)) = True := eq_true (oD)
            obtain ⟨ad201, e201, hx201_0⟩ := Kd.at_int (Kd.R_reads' HO_6.out).2.2 t185 p201 q201; obtain rfl : (⟨go22, 0, none⟩ : Addr) = ad201 := (by injection e201); (first | simp only [add_plain] at hx201_0 | simp only [add_at] at hx201_0 | simp only [Addr.add, Nat.zero_add] at hx201_0 | skip); replace p201 := eq_true p201; replace q201 := eq_true q201
            refine start_ (n := 10) (S := fun w' => w'.cell? ⟨go22, (t193).toNat, none⟩ = some (.int .i64 (rd y196 t193)) ∧ w'.cell? ⟨go22, (t185).toNat, none⟩ = some (.int .i64 (rd y196 t185))) (ds := []) #[F,F,F,F,F,F,F,F,F,F] (by kernel_rfl) rfl rfl ⟨hx200_0, hx201_0⟩ (fun hHeld => ?_); refine with_tabW spec_keFar.tab23 spec_keFar.bits23 (fun HT_ HW_ => ?_)
            generalize w59.drew = w60 at HO_6 HO_7 HO_60 HO199 HB hx200_0 hx201_0 hHeld ⊢
            refine pU 0 (some 91) #[T,F,F,F,F,F,F,F,F,F] HT_ ?_
            refine pU 1 (some 92) #[T,T,F,F,F,F,F,F,F,F] HT_ ?_
            refine pU 2 (some 93) #[T,T,T,F,F,F,F,F,F,F] HT_ ?_
            refine pU 4 (some 95) #[T,T,T,F,T,F,F,F,F,F] HT_ ?_
            refine pU 5 (some 96) #[T,T,T,F,T,T,F,F,F,F] HT_ ?_
            refine pU 6 (some 97) #[T,T,T,F,T,T,T,F,F,F] HT_ ?_
            refine take_ (i := 3) (N := some 94) (v := ?_) (a' := ?_) #[T,T,T,T,T,T,T,F,F,F] rfl rfl (take_ofW HT_.out HW_.out (by kernel_rfl)) (fun _ _ _ h => h) (Or.inl ⟨by rfl, ?_⟩) hHeld ?_ ?_
            rotate_left
            ·rintro w' ⟨s0, s1⟩
             go_simp
             with_reducible rfl
            rotate_left
            ·simp only [Act.put, sA, sB, sC, i64_w, i32_w]
             rfl
            refine take_ (i := 7) (N := some 98) (v := ?_) (a' := ?_) #[T,T,T,T,T,T,T,T,F,F] rfl rfl (take_ofW HT_.out HW_.out (by kernel_rfl)) (fun _ _ _ h => h) (Or.inl ⟨by rfl, ?_⟩) hHeld ?_ ?_
            rotate_left
            ·rintro w' ⟨s0, s1⟩
             go_simp
             with_reducible rfl
            rotate_left
            ·simp only [Act.put, sA, sB, sC, i64_w, i32_w]
             rfl
            refine pU 8 (some 99) #[T,T,T,T,T,T,T,T,T,F] HT_ ?_
            refine pU 9 (some 100) #[T,T,T,T,T,T,T,T,T,T] HT_ ?_
            refine done_ (done_of HT_.out (by kernel_rfl)) ?_
            try go_wp2
            have n0_ := aM (Kd.R_drew HO_6.out); have n1_ := aM (Kd.R_drew HO_7.out); have n2_ := aM (Kd.R_drew HO_60.out); have n3_ := aM (Kd.R_drew HO199.out); have n4_ := aM (below_drew1 HB.out); clear HO_6 HO_7 HO_60 HO199 HB; have HO_6 := n0_; have HO_7 := n1_; have HO_60 := n2_; have HO199 := n3_; have HB := n4_; clear n0_ n1_ n2_ n3_ n4_; obtain ⟨hx202_0, p202, q202⟩ := aY (Kd.at_int (Kd.R_reads' HO_7.out).2.2 t193); obtain ⟨hx203_0, p203, q203⟩ := aY (Kd.at_int (Kd.R_reads' HO_7.out).2.2 t185); obtain ⟨hx55_0, hf55_0, p55, q55⟩ := aC (Kd.R_celln 0 HO_7.out (t193 : Int))
            have HP62 := Kd.R_putn HO_7.out (t193 : Int) (wrap64 ((rd x7_3 t193) + (rd x7_3 t185)))
            rw [← Ny204.out] at HP62
            have HQ62 := aM HP62
            clear HP62
            refine start_ (n := 11) (S := fun w' => w'.cell? ⟨go24, (t193).toNat, none⟩ = some (.int .i64 (rd x7_3 t193)) ∧ w'.cell? ⟨go24, (t185).toNat, none⟩ = some (.int .i64 (rd x7_3 t185))) (ds := [10]) #[F,F,F,F,F,F,F,F,F,F,F] (by kernel_rfl) rfl rfl ⟨hx202_0, hx203_0⟩ (fun hHeld => ?_); refine with_tabW spec_keFar.tab24 spec_keFar.bits24 (fun HT_ HW_ => ?_)
            generalize w60.drew = w61 at HO_6 HO_7 HO_60 HO199 HB HQ62 hf55_0 hx202_0 hx203_0 hx55_0 hHeld ⊢
            refine pU 0 (some 101) #[T,F,F,F,F,F,F,F,F,F,F] HT_ ?_
            refine pU 1 (some 102) #[T,T,F,F,F,F,F,F,F,F,F] HT_ ?_
            refine pU 2 (some 103) #[T,T,T,F,F,F,F,F,F,F,F] HT_ ?_
            refine pU 4 (some 105) #[T,T,T,F,T,F,F,F,F,F,F] HT_ ?_
            refine pU 5 (some 106) #[T,T,T,F,T,T,F,F,F,F,F] HT_ ?_
            refine pU 6 (some 107) #[T,T,T,F,T,T,T,F,F,F,F] HT_ ?_
            refine take_ (i := 3) (N := some 104) (v := ?_) (a' := ?_) #[T,T,T,T,T,T,T,F,F,F,F] rfl rfl (take_ofW HT_.out HW_.out (by kernel_rfl)) (fun _ _ _ h => h) (Or.inl ⟨by rfl, ?_⟩) hHeld ?_ ?_
            rotate_left
            ·rintro w' ⟨s0, s1⟩
             go_simp
             with_reducible rfl
            rotate_left
            ·simp only [Act.put, sA, sB, sC, i64_w, i32_w]
             rfl
            refine take_ (i := 7) (N := some 108) (v := ?_) (a' := ?_) #[T,T,T,T,T,T,T,T,F,F,F] rfl rfl (take_ofW HT_.out HW_.out (by kernel_rfl)) (fun _ _ _ h => h) (Or.inl ⟨by rfl, ?_⟩) hHeld ?_ ?_
            rotate_left
            ·rintro w' ⟨s0, s1⟩
             go_simp
             with_reducible rfl
            rotate_left
            ·simp only [Act.put, sA, sB, sC, i64_w, i32_w]
             rfl
            refine pU 8 (some 109) #[T,T,T,T,T,T,T,T,T,F,F] HT_ ?_
            refine pU 9 (some 110) #[T,T,T,T,T,T,T,T,T,T,F] HT_ ?_
            refine last_ (i := 10) (N := none) #[T,T,T,T,T,T,T,T,T,T,T] rfl rfl (one_of HT_.out (by kernel_rfl)) (by decide) (fun K hK => ?_)
            refine skip_ (w1 := ?_) (by rfl) rfl ?_ ?_
            rotate_left
            ·go_simp
             rfl
            refine hK.out _ _ ?_
            clear hK K
            refine done_ (done_of HT_.out (by kernel_rfl)) ?_
            try go_wp2
            (try simp only [← hl6_3, ← hl7_3])
            go_roundg k3
            case measure => have := HK1.out; have := HK2.out; have := HK3.out; omega
            case rel => exact ⟨(y196), (y204), (y197), (wrap64 (x62_3 + 1)), (by first | rfl | (simp; done) | (simp [*]; done)), H', ⟨by have := HK1.out; have := HK2.out; have := HK3.out; omega⟩, ⟨by (try simp only [hl6_1]); (try simp only [hl6_2]); (try simp only [hl7_2]); (try simp only [hl6_3]); (try simp only [hl7_3]); (with_reducible repeat (first | apply rA | apply rN | apply rD)); exact Kd.R_mono (Kd.R_far (p := ⟨go24, (t193 : Int).toNat, none⟩) (Kd.R_mono HO_6.out (fun k_ hk => (⟨hk, fun e_ => hk.1 (by rw [e_]; rfl)⟩ : _ ∧ k_ ≠ go24))) (fun _ hk => hk.2) (.int .i64 (wrap64 ((rd x7_3 t193) + (rd x7_3 t185))))) (fun _ hk => ⟨hk.1.1, hk.1.2⟩)⟩, ⟨by (try simp only [hl6_1]); (try simp only [hl6_2]); (try simp only [hl7_2]); (try simp only [hl6_3]); (try simp only [hl7_3]); (with_reducible repeat (first | apply rA | apply rN | apply rD)); exact Kd.R_mono HQ62.out (fun _ hk => ⟨hk.2, hk.1⟩)⟩, ⟨by (try simp only [hl6_1]); (try simp only [hl6_2]); (try simp only [hl7_2]); (try simp only [hl6_3]); (try simp only [hl7_3]); (with_reducible repeat (first | apply rA | apply rN | apply rD)); exact Kd.R_mono (Kd.R_far (p := ⟨go24, (t193 : Int).toNat, none⟩) (Kd.R_types (t := 3) HO199.out (by first | exact GG24.out | exact (Kd.R_typed HO_7.out _ rfl).choose_spec) (by decide)) (fun _ hk => hk.2) (.int .i64 (wrap64 ((rd x7_3 t193) + (rd x7_3 t185))))) (fun _ hk => trivial)⟩, ⟨by (try simp only [hl6_1]); (try simp only [hl6_2]); (try simp only [hl7_2]); (try simp only [hl6_3]); (try simp only [hl7_3]); (with_reducible repeat (first | apply rA | apply rN | apply rD)); exact Kd.R_mono (Kd.R_far (p := ⟨go24, (t193 : Int).toNat, none⟩) (Kd.R_mono HO_60.out (fun k_ hk => (⟨hk, fun e_ => hk.1 (by rw [e_]; rfl)⟩ : _ ∧ k_ ≠ go24))) (fun _ hk => hk.2) (.int .i64 (wrap64 ((rd x7_3 t193) + (rd x7_3 t185))))) (fun _ hk => ⟨hk.1.2, hk.1.1⟩)⟩, ⟨by repeat first | exact HB.out | apply bA | apply bN | apply bD | refine bS ?_ GB24.out⟩⟩
           ·have c52b0 : ((rd y196 t193) == (wrap64 ((rd y196 t185) + 1))) = false := beq_eq_false_iff_ne.mpr c52
            have c52b1 : ((rd y196 t193) != (wrap64 ((rd y196 t185) + 1))) = true := bne_iff_ne.mpr c52
            have H' := aM H
            clear H; have p190 : 0 ≤ (x62_3 : Int) := of_decide_eq_true (by first | (with_reducible assumption) | assumption); have q190 : x62_3 < (t187.length : Int) := of_decide_eq_true (by first | (with_reducible assumption) | assumption); obtain ⟨ad190, e190, hx190_0⟩ := Kd.at_int (Kd.R_reads' HO_60.out).2.2 x62_3 p190 q190; cases e190; replace p190 := eq_true p190; replace q190 := eq_true q190
            obtain ⟨Ao63, co63, eo63⟩ := Kd.R_slice HO_10.out
            subst eo63
            obtain ⟨ad191, e191, hx191_0, p191, q191⟩ := aZ (Kd.at_string (Kd.R_reads' HO_10.out).2.2 x11_2); cases e191
            try go_wp2_with (first | ((with_reducible refine gC 72 rfl ?_); refine gL (some 71) Tryz.func72 #[.string (rdOf ByteArray.empty x10_3 x11_2), .int .i64 (rd t187 x62_3)] ?_; (with_reducible refine (spec_riMove.calls (rdOf ByteArray.empty x10_3 x11_2) (rd t187 x62_3) t192 _ A43.out).mono ?_); rintro e w' ⟨rfl, ⟨nd, rfl⟩⟩; refine ⟨_, rfl, ?_⟩; (try (rw [drewN_self wr]; generalize hq_ : World.drewN wr _ = wr; replace HO_6 := dR hq_ HO_6; replace HO_7 := dR hq_ HO_7; replace HO_10 := dR hq_ HO_10; replace HO_60 := dR hq_ HO_60; replace HB := dB hq_ HB; clear hq_))) | ((with_reducible refine gC 70 rfl ?_); refine gL (some 73) Tryz.func70 #[.string t192] ?_; (with_reducible refine (spec_riNumber.calls k3 t192 t193 _ A44.out).mono ?_); rintro e w' ⟨rfl, ⟨nd, rfl⟩⟩; refine ⟨_, rfl, ?_⟩; (try (rw [drewN_self wr]; generalize hq_ : World.drewN wr _ = wr; replace HO_6 := dR hq_ HO_6; replace HO_7 := dR hq_ HO_7; replace HO_10 := dR hq_ HO_10; replace HO_60 := dR hq_ HO_60; replace HB := dB hq_ HB; clear hq_)); obtain ⟨hx194_0, p194, q194⟩ := aY (Kd.at_int (Kd.R_reads' HO_6.out).2.2 t193); obtain ⟨hx195_0, p195, q195⟩ := aY (Kd.at_int (Kd.R_reads' HO_6.out).2.2 t185); obtain ⟨hx50_0, hf50_0, p50, q50⟩ := aC (Kd.R_celln 0 HO_6.out (t193 : Int)); obtain ⟨hy64_, hz64_⟩ := Kd.R_celln 0 HO_6.out (t193 : Int) (oD) (oD); have HP64 := Kd.R_putg HO_6.out (t193 : Int) (wrap64 ((rd x6_3 t185) + 1))) | ((with_reducible refine gate_store (t := 3) (p := 86) rfl ?_); refine store_event (t := 3) (p := 86) (v := ?vo_w65) (w1 := (wr.setCell ⟨go22, (t193 : Int).toNat, none⟩ (.int .i64 (wrap64 ((rd x6_3 t185) + 1))))) ?hg ?ho ?hn ?hr ?_; (case ho => rfl); (case hg => rfl); (case hn => rfl); (case hr => go_simp); intro w65 hw; have hg : wr.grownBy w65 (some go22) := (by rw [hw]; exact HP64.2); have hp_ : Kd.R (Kd.int .i64) 3 w65 w.heap.size (fun k_ => some k_ ≠ (.slice (some ⟨go24, 0, none⟩) x7_3.length co24 : Value).ownBlock ∧ some k_ ≠ (.slice (some ad190) t187.length co37 : Value).ownBlock) (.slice (some ⟨go22, 0, none⟩) x6_3.length co12) y196 := (by rw [hw, Ny196.out]; exact HP64.1); clear HP64; replace HO_7 := aM (Kd.R_after (v := (.slice (some ⟨go22, 0, none⟩) x6_3.length co12)) (v1 := (.slice (some ⟨go22, 0, none⟩) x6_3.length co12)) (ok := (fun k_ => some k_ ≠ (.slice (some ad190) t187.length co37 : Value).ownBlock)) (Kd.R_mono HO_7.out (fun _ hk => ⟨hk.2, hk.1⟩)) hg (.inl rfl)); replace HO_10 := aM (Kd.R_over' (v := (.slice (some ⟨go22, 0, none⟩) x6_3.length co12)) HO_10.out (Kd.R_typed HO_6.out) (by decide) hg); replace HO_6 := aM (hp_); replace HO_60 := aM (Kd.R_after (v := (.slice (some ⟨go22, 0, none⟩) x6_3.length co12)) (v1 := (.slice (some ⟨go22, 0, none⟩) x6_3.length co12)) (ok := (fun k_ => some k_ ≠ (.slice (some ⟨go24, 0, none⟩) x7_3.length co24 : Value).ownBlock)) (Kd.R_mono HO_60.out (fun _ hk => ⟨hk.2, hk.1⟩)) hg (.inl rfl)); replace HB := aM ((by rw [hw]; exact below_set (HB.out) GB22.out : Below w.heap.size w w65)); clear hg hw hp_) | ((with_reducible refine gate_builtin (b := .append) (xs := #[.tmp 87, .tmp 89]) rfl ?_); at_builtin; refine Kd.R_append Kd.string (w0 := w) w.heap.size rfl (.tmp 87) (.tmp 89) 22 9 (.string ⟨#[]⟩) 16 rfl Tryz.underlying22 info9 rfl (by decide) (by omega) (.slice (some ad191) x10_3.length co63) x10_3 t192 [.string t192] (fun _ => True) (fun _ => False) rfl rfl ?aP (fun _ hk => hk.elim) ?aF ?aO ?aB ?aS ?aL ?_; (case aP => exact rfl); (case aB => exact HB.out); (case aF => exact (fun _ _ => trivial)); (case aO => exact HO_10.out); (case aS => exact (below_size HB.out)); (case aL => have := LMc51.out; omega); intro v198 w66 ho hb hg hat; rw [← Ny197.out] at ho; replace HO_6 := aM (Kd.R_over' HO_6.out (Kd.R_typed HO_10.out) (by decide) hg); replace HO_7 := aM (Kd.R_over' HO_7.out (Kd.R_typed HO_10.out) (by decide) hg); replace HO_60 := aM (Kd.R_over' HO_60.out (Kd.R_typed HO_10.out) (by decide) hg); replace HB := aM (hb); have HO199 := aM (ho); clear ho hb hg hat))
            have n0_ := aM (Kd.R_drew HO_6.out); have n1_ := aM (Kd.R_drew HO_7.out); have n2_ := aM (Kd.R_drew HO_60.out); have n3_ := aM (Kd.R_drew HO199.out); have n4_ := aM (below_drew1 HB.out); clear HO_6 HO_7 HO_60 HO199 HB; have HO_6 := n0_; have HO_7 := n1_; have HO_60 := n2_; have HO199 := n3_; have HB := n4_; clear n0_ n1_ n2_ n3_ n4_; have p200 : 0 ≤ (t193 : Int) := oD
            have q200 : t193 < (y196.length : Int) := (by have h_ : (t193 : Int) < ((x6_3.length : Int) : Int) := oD; first | (have e_ := (Kd.R_reads' HO_6.out).1; omega) | simpa only [Ny196.out, List.length_set] using h_)
            have ql200 : ((t193 : Int) < ((x6_3.length : Int) : Int)) = True := eq_true (oD)
            obtain ⟨ad200, e200, hx200_0⟩ := Kd.at_int (Kd.R_reads' HO_6.out).2.2 t193 p200 q200; obtain rfl : (⟨go22, 0, none⟩ : Addr) = ad200 := (by injection e200); (first | simp only [add_plain] at hx200_0 | simp only [add_at] at hx200_0 | simp only [Addr.add, Nat.zero_add] at hx200_0 | skip); replace p200 := eq_true p200; replace q200 := eq_true q200; have p201 : 0 ≤ (t185 : Int) := oD
            have q201 : t185 < (y196.length : Int) := (by have h_ : (t185 : Int) < ((x6_3.length : Int) : Int) := oD; first | (have e_ := (Kd.R_reads' HO_6.out).1; omega) | simpa only [Ny196.out, List.length_set] using h_)
            have ql201 : ((t185 : Int) < ((x6_3.length : Int) : Int)) = True := eq_true (oD)
            obtain ⟨ad201, e201, hx201_0⟩ := Kd.at_int (Kd.R_reads' HO_6.out).2.2 t185 p201 q201; obtain rfl : (⟨go22, 0, none⟩ : Addr) = ad201 := (by injection e201); (first | simp only [add_plain] at hx201_0 | simp only [add_at] at hx201_0 | simp only [Addr.add, Nat.zero_add] at hx201_0 | skip); replace p201 := eq_true p201; replace q201 := eq_true q201
            refine start_ (n := 10) (S := fun w' => w'.cell? ⟨go22, (t193).toNat, none⟩ = some (.int .i64 (rd y196 t193)) ∧ w'.cell? ⟨go22, (t185).toNat, none⟩ = some (.int .i64 (rd y196 t185))) (ds := []) #[F,F,F,F,F,F,F,F,F,F] (by kernel_rfl) rfl rfl ⟨hx200_0, hx201_0⟩ (fun hHeld => ?_); refine with_tabW spec_keFar.tab23 spec_keFar.bits23 (fun HT_ HW_ => ?_)
            generalize w66.drew = w67 at HO_6 HO_7 HO_60 HO199 HB hx200_0 hx201_0 hHeld ⊢
            refine pU 0 (some 91) #[T,F,F,F,F,F,F,F,F,F] HT_ ?_
            refine pU 1 (some 92) #[T,T,F,F,F,F,F,F,F,F] HT_ ?_
            refine pU 2 (some 93) #[T,T,T,F,F,F,F,F,F,F] HT_ ?_
            refine pU 4 (some 95) #[T,T,T,F,T,F,F,F,F,F] HT_ ?_
            refine pU 5 (some 96) #[T,T,T,F,T,T,F,F,F,F] HT_ ?_
            refine pU 6 (some 97) #[T,T,T,F,T,T,T,F,F,F] HT_ ?_
            refine take_ (i := 3) (N := some 94) (v := ?_) (a' := ?_) #[T,T,T,T,T,T,T,F,F,F] rfl rfl (take_ofW HT_.out HW_.out (by kernel_rfl)) (fun _ _ _ h => h) (Or.inl ⟨by rfl, ?_⟩) hHeld ?_ ?_
            rotate_left
            ·rintro w' ⟨s0, s1⟩
             go_simp
             with_reducible rfl
            rotate_left
            ·simp only [Act.put, sA, sB, sC, i64_w, i32_w]
             rfl
            refine take_ (i := 7) (N := some 98) (v := ?_) (a' := ?_) #[T,T,T,T,T,T,T,T,F,F] rfl rfl (take_ofW HT_.out HW_.out (by kernel_rfl)) (fun _ _ _ h => h) (Or.inl ⟨by rfl, ?_⟩) hHeld ?_ ?_
            rotate_left
            ·rintro w' ⟨s0, s1⟩
             go_simp
             with_reducible rfl
            rotate_left
            ·simp only [Act.put, sA, sB, sC, i64_w, i32_w]
             rfl
            refine pU 8 (some 99) #[T,T,T,T,T,T,T,T,T,F] HT_ ?_
            refine pU 9 (some 100) #[T,T,T,T,T,T,T,T,T,T] HT_ ?_
            refine done_ (done_of HT_.out (by kernel_rfl)) ?_
            try go_wp2
            (try simp only [← hl6_3, ← hl7_3])
            go_roundg k3
            case measure => have := HK1.out; have := HK2.out; have := HK3.out; omega
            case rel => exact ⟨(y196), (x7_3), (y197), (wrap64 (x62_3 + 1)), (by first | rfl | (simp; done) | (simp [*]; done)), H', ⟨by have := HK1.out; have := HK2.out; have := HK3.out; omega⟩, ⟨by (try simp only [hl6_1]); (try simp only [hl6_2]); (try simp only [hl7_2]); (try simp only [hl6_3]); (try simp only [hl7_3]); (with_reducible repeat (first | apply rA | apply rN | apply rD)); exact HO_6.out⟩, ⟨by (try simp only [hl6_1]); (try simp only [hl6_2]); (try simp only [hl7_2]); (try simp only [hl6_3]); (try simp only [hl7_3]); (with_reducible repeat (first | apply rA | apply rN | apply rD)); exact Kd.R_mono HO_7.out (fun _ hk => ⟨hk.2, hk.1⟩)⟩, ⟨by (try simp only [hl6_1]); (try simp only [hl6_2]); (try simp only [hl7_2]); (try simp only [hl6_3]); (try simp only [hl7_3]); (with_reducible repeat (first | apply rA | apply rN | apply rD)); exact HO199.out⟩, ⟨by (try simp only [hl6_1]); (try simp only [hl6_2]); (try simp only [hl7_2]); (try simp only [hl6_3]); (try simp only [hl7_3]); (with_reducible repeat (first | apply rA | apply rN | apply rD)); exact Kd.R_mono HO_60.out (fun _ hk => ⟨hk.2, hk.1⟩)⟩, ⟨bQ⟩⟩
          ·have c47b0 := decide_eq_false c47
           clear c47
           replace H := iC H; obtain ⟨c68, H⟩ := H
           have c68b0 := decide_eq_true c68
           clear c68
           replace H := iC H; obtain ⟨c69, H⟩ := H
           have c69b0 := decide_eq_true c69
           (try (have c69m0 := c69b0; simp only [hl6_1] at c69m0)); (try (have c69m1 := c69b0; simp only [hl6_2] at c69m1)); (try (have c69m2 := c69b0; simp only [hl7_2] at c69m2)); (try (have c69m3 := c69b0; simp only [hl6_3] at c69m3)); (try (have c69m4 := c69b0; simp only [hl7_3] at c69m4))
           clear c69
           replace H := iO H; obtain ⟨c70, H⟩ | ⟨c70, H⟩ := H
           ·have c70b0 : ((rd x6_3 t193) == (wrap64 ((rd x6_3 t185) + 1))) = true := beq_iff_eq.mpr c70
            have c70b1 : ((rd x6_3 t193) != (wrap64 ((rd x6_3 t185) + 1))) = false := bne_eq_false_iff_eq.mpr c70
            clear c70
            replace H := iC H; obtain ⟨c71, H⟩ := H
            have c71b0 := decide_eq_true c71
            (try (have c71m0 := c71b0; simp only [hl6_1] at c71m0)); (try (have c71m1 := c71b0; simp only [hl6_2] at c71m1)); (try (have c71m2 := c71b0; simp only [hl7_2] at c71m2)); (try (have c71m3 := c71b0; simp only [hl6_3] at c71m3)); (try (have c71m4 := c71b0; simp only [hl7_3] at c71m4))
            clear c71
            replace H := iN H; obtain ⟨c72b0, H⟩ := H
            (try (have c72m0 := c72b0; simp only [hl6_1] at c72m0)); (try (have c72m1 := c72b0; simp only [hl6_2] at c72m1)); (try (have c72m2 := c72b0; simp only [hl7_2] at c72m2)); (try (have c72m3 := c72b0; simp only [hl6_3] at c72m3)); (try (have c72m4 := c72b0; simp only [hl7_3] at c72m4))
            obtain ⟨y209, hy209⟩ : ∃ y_ : List Int, y_ = (x7_3.set (t193 : Int).toNat (wrap64 ((rd x7_3 t193) + (rd x7_3 t185)))) := ⟨_, rfl⟩
            replace H : (spec_keFar.l2 k3 l0 x6_3 y209 x10_3 x11_2 t185 t187 (t187.length : Int) (wrap64 (x62_3 + 1))) = some (r1, r2) := by first | (rw [hy209]; with_reducible exact H) | (have H2_ := (Option.bind_some _ _).symm.trans H; rw [hy209]; with_reducible exact H2_) | (have H2_ := (Option.bind_some _ _).symm.trans H; with_reducible exact H2_) | with_reducible exact H | (rw [hy209]; exact H) | exact H
            have Ny209 := aM hy209
            clear hy209
            have H' := aM H
            clear H; have p190 : 0 ≤ (x62_3 : Int) := of_decide_eq_true (by first | (with_reducible assumption) | assumption); have q190 : x62_3 < (t187.length : Int) := of_decide_eq_true (by first | (with_reducible assumption) | assumption); obtain ⟨ad190, e190, hx190_0⟩ := Kd.at_int (Kd.R_reads' HO_60.out).2.2 x62_3 p190 q190; cases e190; replace p190 := eq_true p190; replace q190 := eq_true q190
            obtain ⟨Ao74, co74, eo74⟩ := Kd.R_slice HO_10.out
            subst eo74
            obtain ⟨ad191, e191, hx191_0, p191, q191⟩ := aZ (Kd.at_string (Kd.R_reads' HO_10.out).2.2 x11_2); cases e191
            try go_wp2_with (first | ((with_reducible refine gC 72 rfl ?_); refine gL (some 71) Tryz.func72 #[.string (rdOf ByteArray.empty x10_3 x11_2), .int .i64 (rd t187 x62_3)] ?_; (with_reducible refine (spec_riMove.calls (rdOf ByteArray.empty x10_3 x11_2) (rd t187 x62_3) t192 _ A43.out).mono ?_); rintro e w' ⟨rfl, ⟨nd, rfl⟩⟩; refine ⟨_, rfl, ?_⟩; (try (rw [drewN_self wr]; generalize hq_ : World.drewN wr _ = wr; replace HO_6 := dR hq_ HO_6; replace HO_7 := dR hq_ HO_7; replace HO_10 := dR hq_ HO_10; replace HO_60 := dR hq_ HO_60; replace HB := dB hq_ HB; clear hq_))) | ((with_reducible refine gC 70 rfl ?_); refine gL (some 73) Tryz.func70 #[.string t192] ?_; (with_reducible refine (spec_riNumber.calls k3 t192 t193 _ A44.out).mono ?_); rintro e w' ⟨rfl, ⟨nd, rfl⟩⟩; refine ⟨_, rfl, ?_⟩; (try (rw [drewN_self wr]; generalize hq_ : World.drewN wr _ = wr; replace HO_6 := dR hq_ HO_6; replace HO_7 := dR hq_ HO_7; replace HO_10 := dR hq_ HO_10; replace HO_60 := dR hq_ HO_60; replace HB := dB hq_ HB; clear hq_)); obtain ⟨hx194_0, p194, q194⟩ := aY (Kd.at_int (Kd.R_reads' HO_6.out).2.2 t193)))
            have n0_ := aM (Kd.R_drew HO_6.out); have n1_ := aM (Kd.R_drew HO_7.out); have n2_ := aM (Kd.R_drew HO_10.out); have n3_ := aM (Kd.R_drew HO_60.out); have n4_ := aM (below_drew1 HB.out); clear HO_6 HO_7 HO_10 HO_60 HB; have HO_6 := n0_; have HO_7 := n1_; have HO_10 := n2_; have HO_60 := n3_; have HB := n4_; clear n0_ n1_ n2_ n3_ n4_; obtain ⟨hx205_0, p205, q205⟩ := aY (Kd.at_int (Kd.R_reads' HO_6.out).2.2 t193); obtain ⟨hx206_0, p206, q206⟩ := aY (Kd.at_int (Kd.R_reads' HO_6.out).2.2 t185)
            refine start_ (n := 10) (S := fun w' => w'.cell? ⟨go22, (t193).toNat, none⟩ = some (.int .i64 (rd x6_3 t193)) ∧ w'.cell? ⟨go22, (t185).toNat, none⟩ = some (.int .i64 (rd x6_3 t185))) (ds := []) #[F,F,F,F,F,F,F,F,F,F] (by kernel_rfl) rfl rfl ⟨hx205_0, hx206_0⟩ (fun hHeld => ?_); refine with_tabW spec_keFar.tab23 spec_keFar.bits23 (fun HT_ HW_ => ?_)
            generalize wr.drew = w75 at HO_6 HO_7 HO_10 HO_60 HB hx205_0 hx206_0 hHeld ⊢
            refine pU 0 (some 91) #[T,F,F,F,F,F,F,F,F,F] HT_ ?_
            refine pU 1 (some 92) #[T,T,F,F,F,F,F,F,F,F] HT_ ?_
            refine pU 2 (some 93) #[T,T,T,F,F,F,F,F,F,F] HT_ ?_
            refine pU 4 (some 95) #[T,T,T,F,T,F,F,F,F,F] HT_ ?_
            refine pU 5 (some 96) #[T,T,T,F,T,T,F,F,F,F] HT_ ?_
            refine pU 6 (some 97) #[T,T,T,F,T,T,T,F,F,F] HT_ ?_
            refine take_ (i := 3) (N := some 94) (v := ?_) (a' := ?_) #[T,T,T,T,T,T,T,F,F,F] rfl rfl (take_ofW HT_.out HW_.out (by kernel_rfl)) (fun _ _ _ h => h) (Or.inl ⟨by rfl, ?_⟩) hHeld ?_ ?_
            rotate_left
            ·rintro w' ⟨s0, s1⟩
             go_simp
             with_reducible rfl
            rotate_left
            ·simp only [Act.put, sA, sB, sC, i64_w, i32_w]
             rfl
            refine take_ (i := 7) (N := some 98) (v := ?_) (a' := ?_) #[T,T,T,T,T,T,T,T,F,F] rfl rfl (take_ofW HT_.out HW_.out (by kernel_rfl)) (fun _ _ _ h => h) (Or.inl ⟨by rfl, ?_⟩) hHeld ?_ ?_
            rotate_left
            ·rintro w' ⟨s0, s1⟩
             go_simp
             with_reducible rfl
            rotate_left
            ·simp only [Act.put, sA, sB, sC, i64_w, i32_w]
             rfl
            refine pU 8 (some 99) #[T,T,T,T,T,T,T,T,T,F] HT_ ?_
            refine pU 9 (some 100) #[T,T,T,T,T,T,T,T,T,T] HT_ ?_
            refine done_ (done_of HT_.out (by kernel_rfl)) ?_
            try go_wp2
            have n0_ := aM (Kd.R_drew HO_6.out); have n1_ := aM (Kd.R_drew HO_7.out); have n2_ := aM (Kd.R_drew HO_10.out); have n3_ := aM (Kd.R_drew HO_60.out); have n4_ := aM (below_drew1 HB.out); clear HO_6 HO_7 HO_10 HO_60 HB; have HO_6 := n0_; have HO_7 := n1_; have HO_10 := n2_; have HO_60 := n3_; have HB := n4_; clear n0_ n1_ n2_ n3_ n4_; obtain ⟨hx207_0, p207, q207⟩ := aY (Kd.at_int (Kd.R_reads' HO_7.out).2.2 t193); obtain ⟨hx208_0, p208, q208⟩ := aY (Kd.at_int (Kd.R_reads' HO_7.out).2.2 t185); obtain ⟨hx73_0, hf73_0, p73, q73⟩ := aC (Kd.R_celln 0 HO_7.out (t193 : Int))
            have HP77 := Kd.R_putn HO_7.out (t193 : Int) (wrap64 ((rd x7_3 t193) + (rd x7_3 t185)))
            rw [← Ny209.out] at HP77
            have HQ77 := aM HP77
            clear HP77
            refine start_ (n := 11) (S := fun w' => w'.cell? ⟨go24, (t193).toNat, none⟩ = some (.int .i64 (rd x7_3 t193)) ∧ w'.cell? ⟨go24, (t185).toNat, none⟩ = some (.int .i64 (rd x7_3 t185))) (ds := [10]) #[F,F,F,F,F,F,F,F,F,F,F] (by kernel_rfl) rfl rfl ⟨hx207_0, hx208_0⟩ (fun hHeld => ?_); refine with_tabW spec_keFar.tab24 spec_keFar.bits24 (fun HT_ HW_ => ?_)
            generalize w75.drew = w76 at HO_6 HO_7 HO_10 HO_60 HB HQ77 hf73_0 hx207_0 hx208_0 hx73_0 hHeld ⊢
            refine pU 0 (some 101) #[T,F,F,F,F,F,F,F,F,F,F] HT_ ?_
            refine pU 1 (some 102) #[T,T,F,F,F,F,F,F,F,F,F] HT_ ?_
            refine pU 2 (some 103) #[T,T,T,F,F,F,F,F,F,F,F] HT_ ?_
            refine pU 4 (some 105) #[T,T,T,F,T,F,F,F,F,F,F] HT_ ?_
            refine pU 5 (some 106) #[T,T,T,F,T,T,F,F,F,F,F] HT_ ?_
            refine pU 6 (some 107) #[T,T,T,F,T,T,T,F,F,F,F] HT_ ?_
            refine take_ (i := 3) (N := some 104) (v := ?_) (a' := ?_) #[T,T,T,T,T,T,T,F,F,F,F] rfl rfl (take_ofW HT_.out HW_.out (by kernel_rfl)) (fun _ _ _ h => h) (Or.inl ⟨by rfl, ?_⟩) hHeld ?_ ?_
            rotate_left
            ·rintro w' ⟨s0, s1⟩
             go_simp
             with_reducible rfl
            rotate_left
            ·simp only [Act.put, sA, sB, sC, i64_w, i32_w]
             rfl
            refine take_ (i := 7) (N := some 108) (v := ?_) (a' := ?_) #[T,T,T,T,T,T,T,T,F,F,F] rfl rfl (take_ofW HT_.out HW_.out (by kernel_rfl)) (fun _ _ _ h => h) (Or.inl ⟨by rfl, ?_⟩) hHeld ?_ ?_
            rotate_left
            ·rintro w' ⟨s0, s1⟩
             go_simp
             with_reducible rfl
            rotate_left
            ·simp only [Act.put, sA, sB, sC, i64_w, i32_w]
             rfl
            refine pU 8 (some 109) #[T,T,T,T,T,T,T,T,T,F,F] HT_ ?_
            refine pU 9 (some 110) #[T,T,T,T,T,T,T,T,T,T,F] HT_ ?_
            refine last_ (i := 10) (N := none) #[T,T,T,T,T,T,T,T,T,T,T] rfl rfl (one_of HT_.out (by kernel_rfl)) (by decide) (fun K hK => ?_)
            refine skip_ (w1 := ?_) (by rfl) rfl ?_ ?_
            rotate_left
            ·go_simp
             rfl
            refine hK.out _ _ ?_
            clear hK K
            refine done_ (done_of HT_.out (by kernel_rfl)) ?_
            try go_wp2
            (try simp only [← hl6_3, ← hl7_3])
            go_roundg k3
            case measure => have := HK1.out; have := HK2.out; have := HK3.out; omega
            case rel => exact ⟨(x6_3), (y209), (x10_3), (wrap64 (x62_3 + 1)), (by first | rfl | (simp; done) | (simp [*]; done)), H', ⟨by have := HK1.out; have := HK2.out; have := HK3.out; omega⟩, ⟨by (try simp only [hl6_1]); (try simp only [hl6_2]); (try simp only [hl7_2]); (try simp only [hl6_3]); (try simp only [hl7_3]); (with_reducible repeat (first | apply rA | apply rN | apply rD)); exact Kd.R_mono (Kd.R_far (p := ⟨go24, (t193 : Int).toNat, none⟩) (Kd.R_mono HO_6.out (fun k_ hk => (⟨hk, fun e_ => hk.1 (by rw [e_]; rfl)⟩ : _ ∧ k_ ≠ go24))) (fun _ hk => hk.2) (.int .i64 (wrap64 ((rd x7_3 t193) + (rd x7_3 t185))))) (fun _ hk => ⟨hk.1.1, hk.1.2⟩)⟩, ⟨by (try simp only [hl6_1]); (try simp only [hl6_2]); (try simp only [hl7_2]); (try simp only [hl6_3]); (try simp only [hl7_3]); (with_reducible repeat (first | apply rA | apply rN | apply rD)); exact HQ77.out⟩, ⟨by (try simp only [hl6_1]); (try simp only [hl6_2]); (try simp only [hl7_2]); (try simp only [hl6_3]); (try simp only [hl7_3]); (with_reducible repeat (first | apply rA | apply rN | apply rD)); exact Kd.R_mono (Kd.R_far (p := ⟨go24, (t193 : Int).toNat, none⟩) (Kd.R_types (t := 3) HO_10.out (by first | exact GG24.out | exact (Kd.R_typed HO_7.out _ rfl).choose_spec) (by decide)) (fun _ hk => hk.2) (.int .i64 (wrap64 ((rd x7_3 t193) + (rd x7_3 t185))))) (fun _ hk => trivial)⟩, ⟨by (try simp only [hl6_1]); (try simp only [hl6_2]); (try simp only [hl7_2]); (try simp only [hl6_3]); (try simp only [hl7_3]); (with_reducible repeat (first | apply rA | apply rN | apply rD)); exact Kd.R_mono (Kd.R_far (p := ⟨go24, (t193 : Int).toNat, none⟩) (Kd.R_mono HO_60.out (fun k_ hk => (⟨hk, fun e_ => hk.2 (by rw [e_]; rfl)⟩ : _ ∧ k_ ≠ go24))) (fun _ hk => hk.2) (.int .i64 (wrap64 ((rd x7_3 t193) + (rd x7_3 t185))))) (fun _ hk => ⟨hk.1.1, hk.1.2⟩)⟩, ⟨by repeat first | exact HB.out | apply bA | apply bN | apply bD | refine bS ?_ GB24.out⟩⟩
           ·have c70b0 : ((rd x6_3 t193) == (wrap64 ((rd x6_3 t185) + 1))) = false := beq_eq_false_iff_ne.mpr c70
            have c70b1 : ((rd x6_3 t193) != (wrap64 ((rd x6_3 t185) + 1))) = true := bne_iff_ne.mpr c70
            have H' := aM H
            clear H; have p190 : 0 ≤ (x62_3 : Int) := of_decide_eq_true (by first | (with_reducible assumption) | assumption); have q190 : x62_3 < (t187.length : Int) := of_decide_eq_true (by first | (with_reducible assumption) | assumption); obtain ⟨ad190, e190, hx190_0⟩ := Kd.at_int (Kd.R_reads' HO_60.out).2.2 x62_3 p190 q190; cases e190; replace p190 := eq_true p190; replace q190 := eq_true q190
            obtain ⟨Ao78, co78, eo78⟩ := Kd.R_slice HO_10.out
            subst eo78
            obtain ⟨ad191, e191, hx191_0, p191, q191⟩ := aZ (Kd.at_string (Kd.R_reads' HO_10.out).2.2 x11_2); cases e191
            try go_wp2_with (first | ((with_reducible refine gC 72 rfl ?_); refine gL (some 71) Tryz.func72 #[.string (rdOf ByteArray.empty x10_3 x11_2), .int .i64 (rd t187 x62_3)] ?_; (with_reducible refine (spec_riMove.calls (rdOf ByteArray.empty x10_3 x11_2) (rd t187 x62_3) t192 _ A43.out).mono ?_); rintro e w' ⟨rfl, ⟨nd, rfl⟩⟩; refine ⟨_, rfl, ?_⟩) | ((with_reducible refine gC 70 rfl ?_); refine gL (some 73) Tryz.func70 #[.string t192] ?_; (with_reducible refine (spec_riNumber.calls k3 t192 t193 _ A44.out).mono ?_); rintro e w' ⟨rfl, ⟨nd, rfl⟩⟩; refine ⟨_, rfl, ?_⟩; obtain ⟨hx194_0, p194, q194⟩ := aY (Kd.at_int (Kd.R_reads' HO_6.out).2.2 t193)))
            (try (rw [drewN_self wr]; generalize hq_ : World.drewN wr _ = wr; replace HO_6 := dR hq_ HO_6; replace HO_7 := dR hq_ HO_7; replace HO_10 := dR hq_ HO_10; replace HO_60 := dR hq_ HO_60; replace HB := dB hq_ HB; clear hq_))
            have n0_ := aM (Kd.R_drew HO_6.out); have n1_ := aM (Kd.R_drew HO_7.out); have n2_ := aM (Kd.R_drew HO_10.out); have n3_ := aM (Kd.R_drew HO_60.out); have n4_ := aM (below_drew1 HB.out); clear HO_6 HO_7 HO_10 HO_60 HB; have HO_6 := n0_; have HO_7 := n1_; have HO_10 := n2_; have HO_60 := n3_; have HB := n4_; clear n0_ n1_ n2_ n3_ n4_; obtain ⟨hx205_0, p205, q205⟩ := aY (Kd.at_int (Kd.R_reads' HO_6.out).2.2 t193); obtain ⟨hx206_0, p206, q206⟩ := aY (Kd.at_int (Kd.R_reads' HO_6.out).2.2 t185)
            refine start_ (n := 10) (S := fun w' => w'.cell? ⟨go22, (t193).toNat, none⟩ = some (.int .i64 (rd x6_3 t193)) ∧ w'.cell? ⟨go22, (t185).toNat, none⟩ = some (.int .i64 (rd x6_3 t185))) (ds := []) #[F,F,F,F,F,F,F,F,F,F] (by kernel_rfl) rfl rfl ⟨hx205_0, hx206_0⟩ (fun hHeld => ?_); refine with_tabW spec_keFar.tab23 spec_keFar.bits23 (fun HT_ HW_ => ?_)
            generalize wr.drew = w79 at HO_6 HO_7 HO_10 HO_60 HB hx205_0 hx206_0 hHeld ⊢
            refine pU 0 (some 91) #[T,F,F,F,F,F,F,F,F,F] HT_ ?_
            refine pU 1 (some 92) #[T,T,F,F,F,F,F,F,F,F] HT_ ?_
            refine pU 2 (some 93) #[T,T,T,F,F,F,F,F,F,F] HT_ ?_
            refine pU 4 (some 95) #[T,T,T,F,T,F,F,F,F,F] HT_ ?_
            refine pU 5 (some 96) #[T,T,T,F,T,T,F,F,F,F] HT_ ?_
            refine pU 6 (some 97) #[T,T,T,F,T,T,T,F,F,F] HT_ ?_
            refine take_ (i := 3) (N := some 94) (v := ?_) (a' := ?_) #[T,T,T,T,T,T,T,F,F,F] rfl rfl (take_ofW HT_.out HW_.out (by kernel_rfl)) (fun _ _ _ h => h) (Or.inl ⟨by rfl, ?_⟩) hHeld ?_ ?_
            rotate_left
            ·rintro w' ⟨s0, s1⟩
             go_simp
             with_reducible rfl
            rotate_left
            ·simp only [Act.put, sA, sB, sC, i64_w, i32_w]
             rfl
            refine take_ (i := 7) (N := some 98) (v := ?_) (a' := ?_) #[T,T,T,T,T,T,T,T,F,F] rfl rfl (take_ofW HT_.out HW_.out (by kernel_rfl)) (fun _ _ _ h => h) (Or.inl ⟨by rfl, ?_⟩) hHeld ?_ ?_
            rotate_left
            ·rintro w' ⟨s0, s1⟩
             go_simp
             with_reducible rfl
            rotate_left
            ·simp only [Act.put, sA, sB, sC, i64_w, i32_w]
             rfl
            refine pU 8 (some 99) #[T,T,T,T,T,T,T,T,T,F] HT_ ?_
            refine pU 9 (some 100) #[T,T,T,T,T,T,T,T,T,T] HT_ ?_
            refine done_ (done_of HT_.out (by kernel_rfl)) ?_
            try go_wp2
            (try simp only [← hl6_3, ← hl7_3])
            go_roundg k3
            case measure => have := HK1.out; have := HK2.out; have := HK3.out; omega
            case rel => exact ⟨(x6_3), (x7_3), (x10_3), (wrap64 (x62_3 + 1)), (by first | rfl | (simp; done) | (simp [*]; done)), H', ⟨by have := HK1.out; have := HK2.out; have := HK3.out; omega⟩, ⟨by (try simp only [hl6_1]); (try simp only [hl6_2]); (try simp only [hl7_2]); (try simp only [hl6_3]); (try simp only [hl7_3]); (with_reducible repeat (first | apply rA | apply rN | apply rD)); exact HO_6.out⟩, ⟨by (try simp only [hl6_1]); (try simp only [hl6_2]); (try simp only [hl7_2]); (try simp only [hl6_3]); (try simp only [hl7_3]); (with_reducible repeat (first | apply rA | apply rN | apply rD)); exact HO_7.out⟩, ⟨by (try simp only [hl6_1]); (try simp only [hl6_2]); (try simp only [hl7_2]); (try simp only [hl6_3]); (try simp only [hl7_3]); (with_reducible repeat (first | apply rA | apply rN | apply rD)); exact HO_10.out⟩, ⟨by (try simp only [hl6_1]); (try simp only [hl6_2]); (try simp only [hl7_2]); (try simp only [hl6_3]); (try simp only [hl7_3]); (with_reducible repeat (first | apply rA | apply rN | apply rD)); exact HO_60.out⟩, ⟨bQ⟩⟩
         ·have c38b0 := decide_eq_false c38
          (try (have c38m0 := c38b0; simp only [hl6_1] at c38m0)); (try (have c38m1 := c38b0; simp only [hl6_2] at c38m1)); (try (have c38m2 := c38b0; simp only [hl7_2] at c38m2)); (try (have c38m3 := c38b0; simp only [hl6_3] at c38m3)); (try (have c38m4 := c38b0; simp only [hl7_3] at c38m4))
          clear c38
          have H' := aM H
          clear H
          go_wp2
          (try simp only [← hl6_2, ← hl7_2, ← hl6_3, ← hl7_3])
          go_roundg k3
          case measure => have := HK1.out; have := HK2.out; have := HK3.out; omega
          case rel => exact ⟨(x6_3), (x7_3), (x10_3), (wrap64 (x11_2 + 1)), (by first | rfl | (simp; done) | (simp [*]; done)), H', ⟨by have := HK1.out; have := HK2.out; have := HK3.out; omega⟩, ⟨by (try simp only [hl6_1]); (try simp only [hl6_2]); (try simp only [hl7_2]); (try simp only [hl6_3]); (try simp only [hl7_3]); (with_reducible repeat (first | apply rA | apply rN | apply rD)); exact Kd.R_mono HO_6.out (fun _ hk => hk.1)⟩, ⟨by (try simp only [hl6_1]); (try simp only [hl6_2]); (try simp only [hl7_2]); (try simp only [hl6_3]); (try simp only [hl7_3]); (with_reducible repeat (first | apply rA | apply rN | apply rD)); exact Kd.R_mono HO_7.out (fun _ hk => hk.1)⟩, ⟨by (try simp only [hl6_1]); (try simp only [hl6_2]); (try simp only [hl7_2]); (try simp only [hl6_3]); (try simp only [hl7_3]); (with_reducible repeat (first | apply rA | apply rN | apply rD)); exact HO_10.out⟩, ⟨bQ⟩⟩
      ·have c31b0 := decide_eq_false c31
       (try (have c31m0 := c31b0; simp only [hl6_1] at c31m0)); (try (have c31m1 := c31b0; simp only [hl6_2] at c31m1)); (try (have c31m2 := c31b0; simp only [hl7_2] at c31m2))
       clear c31
       simp only [Option.some.injEq, Prod.mk.injEq] at H
       obtain ⟨rfl, rfl⟩ := H
       obtain ⟨Ao80, co80, eo80⟩ := Kd.R_slice HO_10.out
       subst eo80
       go_wp2
       go_ret2
       exact ⟨_, _, by first | rfl | (simp [errW_none, errW_some] <;> rfl) | (simp only [← hji3]; first | rfl | (simp [errW_none, errW_some] <;> rfl)) | (simp [*, errW_none, errW_some] <;> rfl), HO_6.out, HO_7.out, HB.out⟩
end Go.Proofs.YtbmbehkdidlolaaGreatDoor.PT
