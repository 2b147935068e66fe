-- written by a program of this session's (wip/tools), over the kit's print
import Derived.Test.YtppbohghongfmaaDoorPNx0
import Derived.Test.YtppbohghongfmaaDoorPNx4
import Derived.Test.YtppbohghongfmaaDoorPNx5
-- squeezed
-- squeezed twice
namespace Go.Proofs.YtppbohghongfmaaDoor.PN
open Go.RowKit Go.Proofs.YtppbohghongfmaaDoorW.PrintWords Go.Proofs.YtppbohghongfmaaDoorW.PrintLast Go.Proofs.YtppbohghongfmaaDoorW.PrintMore
attribute [local go_sem] max2_int min2_int max_two min_two max_three min_three max_four min_four   -- for this text's walks alone
set_option linter.unusedVariables false
set_option linter.unusedSimpArgs false

/-! ### spec_twFar: function 38 -/
mutual
def spec_twFar.l0 : Nat → ByteArray → List Int → List Int → Int → Int → Option (List Int × List Int)
 | 0, _, _, _, _, _ => none
 | k + 1, x0, x4, x5, x24, x25 => if x25 < x24 then (if 0 ≤ x25 then (if x25 < (x4.length : Int) then (spec_twFar.l0 k x0 (x4.set (x25 : Int).toNat (-1)) x5 x24 (wrap64 (x25 + 1))) else (none)) else (none)) else ((spec_riNumber.f k x0).bind fun t305 => (if 0 ≤ t305 then (if t305 < (x4.length : Int) then (if t305 < (x5.length : Int) then (spec_twFar.l1 k (x4.set (t305 : Int).toNat 0) (x5.set (t305 : Int).toNat 1) (([x0] : List ByteArray)) 0) else (none)) else (none)) else (none)))
def spec_twFar.l1 : Nat → List Int → List Int → List ByteArray → Int → Option (List Int × List Int)
 | 0, _, _, _, _ => none
 | k + 1, x4, x5, x8, x9 => if x9 < (x8.length : Int) then (if 0 ≤ x9 then ((spec_riNumber.f k (rdOf ByteArray.empty x8 x9)).bind fun t312 => ((spec_twMoves.f k (rdOf ByteArray.empty x8 x9)).bind fun t314 => (spec_twFar.l2 k x4 x5 x8 x9 t312 t314 (t314.length : Int) 0))) else (none)) else (some (x4, x5))
def spec_twFar.l2 : Nat → List Int → List Int → List ByteArray → Int → Int → List Int → Int → Int → Option (List Int × List Int)
 | 0, _, _, _, _, _, _, _, _ => none
 | k + 1, x4, x5, x8, x9, x10, x57, x58, x59 => if x59 < x58 then (if 0 ≤ x59 then (if x59 < (x57.length : Int) then (if 0 ≤ x9 then (if x9 < (x8.length : Int) then ((spec_twMake.f (rdOf ByteArray.empty x8 x9) (rd x57 x59)).bind fun t319 => ((spec_riNumber.f k t319).bind fun t320 => (if 0 ≤ t320 then (if t320 < (x4.length : Int) then (if (rd x4 t320) < 0 then (if 0 ≤ x10 then (if x10 < (x4.length : Int) then ((some (x4.set (t320 : Int).toNat (wrap64 ((rd x4 x10) + 1)) : List Int)).bind fun y323 => (if x8.length < 8796093022208 then ((some (x8 ++ [t319] : List ByteArray)).bind fun y324 => (if (rd y323 t320) = (wrap64 ((rd y323 x10) + 1)) then (if t320 < (x5.length : Int) then (if x10 < (x5.length : Int) then (spec_twFar.l2 k y323 (x5.set (t320 : Int).toNat (wrap64 ((rd x5 t320) + (rd x5 x10)))) y324 x9 x10 x57 x58 (wrap64 (x59 + 1))) else (none)) else (none)) else (spec_twFar.l2 k y323 x5 y324 x9 x10 x57 x58 (wrap64 (x59 + 1))))) else (none))) else (none)) else (none)) else (if 0 ≤ x10 then (if x10 < (x4.length : Int) then (if (rd x4 t320) = (wrap64 ((rd x4 x10) + 1)) then (if t320 < (x5.length : Int) then (if x10 < (x5.length : Int) then (spec_twFar.l2 k x4 (x5.set (t320 : Int).toNat (wrap64 ((rd x5 t320) + (rd x5 x10)))) x8 x9 x10 x57 x58 (wrap64 (x59 + 1))) else (none)) else (none)) else (spec_twFar.l2 k x4 x5 x8 x9 x10 x57 x58 (wrap64 (x59 + 1)))) else (none)) else (none))) else (none)) else (none)))) else (none)) else (none)) else (none)) else (none)) else (spec_twFar.l1 k x4 x5 x8 (wrap64 (x9 + 1)))
end
def spec_twFar.f (k : Nat) (a0 : ByteArray) : Option (List Int × List Int) := if 0 ≤ (shl .i64 1 (a0.size : Int)) then (if (shl .i64 1 (a0.size : Int) : Int).toNat ≤ 35184372088832 then ((some (List.replicate (shl .i64 1 (a0.size : Int) : Int).toNat 0 : List Int)).bind fun y298 => (spec_twFar.l0 k a0 y298 (List.replicate (shl .i64 1 (a0.size : Int) : Int).toNat 0) (y298.length : Int) 0)) else (none)) else (none)
theorem spec_twFar.mono_l : ∀ k, (∀ y0 y1 y2 y3 y4, LeO (spec_twFar.l0 k y0 y1 y2 y3 y4) (spec_twFar.l0 (k + 1) y0 y1 y2 y3 y4)) ∧ (∀ y0 y1 y2 y3, LeO (spec_twFar.l1 k y0 y1 y2 y3) (spec_twFar.l1 (k + 1) y0 y1 y2 y3)) ∧ (∀ y0 y1 y2 y3 y4 y5 y6 y7, LeO (spec_twFar.l2 k y0 y1 y2 y3 y4 y5 y6 y7) (spec_twFar.l2 (k + 1) y0 y1 y2 y3 y4 y5 y6 y7))
 | 0 => ⟨fun _ _ _ _ _ r h => by simp [spec_twFar.l0] at h, fun _ _ _ _ r h => by simp [spec_twFar.l1] at h, fun _ _ _ _ _ _ _ _ r h => by simp [spec_twFar.l2] at h⟩
 | k + 1 => by
  obtain ⟨ih0, ih1, ih2⟩ := spec_twFar.mono_l k
  refine ⟨?_, ?_, ?_⟩
  ·intro y0 y1 y2 y3 y4
   unfold spec_twFar.l0
   with_reducible repeat' first | exact ih0 _ _ _ _ _ | exact ih1 _ _ _ _ | exact ih2 _ _ _ _ _ _ _ _ | exact spec_riNumber.mono _ _ | exact spec_twMoves.mono _ _ | exact LeO.refl _ | exact LeO.none _ | refine LeO.ite ?_ ?_ | refine LeO.bind ?_ (fun _ => ?_)
  ·intro y0 y1 y2 y3
   unfold spec_twFar.l1
   with_reducible repeat' first | exact ih0 _ _ _ _ _ | exact ih1 _ _ _ _ | exact ih2 _ _ _ _ _ _ _ _ | exact spec_riNumber.mono _ _ | exact spec_twMoves.mono _ _ | exact LeO.refl _ | exact LeO.none _ | refine LeO.ite ?_ ?_ | refine LeO.bind ?_ (fun _ => ?_)
  ·intro y0 y1 y2 y3 y4 y5 y6 y7
   unfold spec_twFar.l2
   with_reducible repeat' first | exact ih0 _ _ _ _ _ | exact ih1 _ _ _ _ | exact ih2 _ _ _ _ _ _ _ _ | exact spec_riNumber.mono _ _ | exact spec_twMoves.mono _ _ | exact LeO.refl _ | exact LeO.none _ | refine LeO.ite ?_ ?_ | refine LeO.bind ?_ (fun _ => ?_)
theorem spec_twFar.mono : ∀ a0 k, LeO (spec_twFar.f k a0) (spec_twFar.f (k + 1) a0) := by
 intro a0 k
 obtain ⟨ih0, ih1, ih2⟩ := spec_twFar.mono_l k
 unfold spec_twFar.f
 with_reducible repeat' first | exact ih0 _ _ _ _ _ | exact ih1 _ _ _ _ | exact ih2 _ _ _ _ _ _ _ _ | exact spec_riNumber.mono _ _ | exact spec_twMoves.mono _ _ | exact LeO.refl _ | exact LeO.none _ | refine LeO.ite ?_ ?_ | refine LeO.bind ?_ (fun _ => ?_)
def spec_twFar.T1 : Bool × List (List Nat × List Nat) := (true, [([], []), ([0], [0]), ([1], [1]), ([2, 2], [2]), ([], []), ([4], [4]), ([5], [5]), ([6, 6], [6]), ([3, 0, 1, 2, 3], [3]), ([7, 8, 0, 1, 2, 3, 4, 5, 6, 7, 8], [7])])
def spec_twFar.B1 : List Nat := [0, 1, 3, 7, 0, 16, 48, 112, 15, 511]
theorem spec_twFar.tab1 : rtab .any (opsOf Tryd.f38 1) = spec_twFar.T1 := by kernel_rfl
theorem spec_twFar.bits1 : waitsOk spec_twFar.T1.2 spec_twFar.B1 = true := by kernel_rfl
def spec_twFar.T23 : Bool × List (List Nat × List Nat) := (true, [([], []), ([], []), ([0, 1], [0, 1]), ([2], [2]), ([], []), ([], []), ([4, 5], [4, 5]), ([6], [6]), ([7], [7]), ([3, 8], [3, 8])])
def spec_twFar.B23 : List Nat := [0, 0, 3, 7, 0, 0, 48, 112, 240, 511]
theorem spec_twFar.tab23 : rtab .any (opsOf Tryd.f38 23) = spec_twFar.T23 := by kernel_rfl
theorem spec_twFar.bits23 : waitsOk spec_twFar.T23.2 spec_twFar.B23 = true := by kernel_rfl
def spec_twFar.T24 : Bool × List (List Nat × List Nat) := (true, [([], []), ([], []), ([0, 1], [0, 1]), ([2], [2]), ([], []), ([], []), ([4, 5], [4, 5]), ([6], [6]), ([3, 7], [3, 7]), ([0, 1, 0, 1, 2, 3, 4, 5, 6, 7, 8], [0, 1]), ([9, 8, 0, 1, 2, 3, 4, 5, 6, 7, 8], [8, 9])])
def spec_twFar.B24 : List Nat := [0, 0, 3, 7, 0, 0, 48, 112, 255, 511, 1023]
theorem spec_twFar.tab24 : rtab .any (opsOf Tryd.f38 24) = spec_twFar.T24 := by kernel_rfl
theorem spec_twFar.bits24 : waitsOk spec_twFar.T24.2 spec_twFar.B24 = true := by kernel_rfl
set_option maxHeartbeats 8000000 in
set_option maxRecDepth 100000 in
theorem spec_twFar.calls (k : Nat) (a0 : ByteArray) (r1 : List Int) (r2 : List Int) (w : World) (h : spec_twFar.f k a0 = some (r1, r2)) :
  Calls Tryd.prog 38 #[.string a0] w fun e w' => ∃ v0_ v1_ : Value, e = .returned (.tuple #[v0_, v1_]) ∧ Kd.R (Kd.int .i64) 3 w' w.heap.size (fun k_ => some k_ ≠ (v1_ : Value).ownBlock) v0_ r1 ∧ Kd.R (Kd.int .i64) 3 w' w.heap.size (fun k_ => some k_ ≠ (v0_ : Value).ownBlock) v1_ r2 ∧ Below w.heap.size w w' := by
 have HB := aM (Below.refl w.heap.size w)
 have H := h; clear h; unfold spec_twFar.f at H
 obtain ⟨ji2, hji2⟩ : ∃ j_ : Int, (shl .i64 1 (a0.size : Int)) = j_ := ⟨_, rfl⟩
 replace H : (if 0 ≤ (ji2) then (if (ji2 : Int).toNat ≤ 35184372088832 then ((some (List.replicate (ji2 : Int).toNat 0 : List Int)).bind fun y298 => (spec_twFar.l0 k a0 y298 (List.replicate (ji2 : Int).toNat 0) (y298.length : Int) 0)) else (none)) else (none)) = some (r1, r2) := by first | (rw [hji2] at H; exact H) | (simp only [hji2] at H ⊢; exact H)
 have hji2_ : (IntKind.i64.wrap (1 * 2 ^ min (a0.size : Int).toNat 64)) = ji2 := hji2
 have hji2z : (a0.size : Int) ≤ 64 → (IntKind.i64.wrap (1 * 2 ^ (a0.size : Int).toNat)) = ji2 := shl_small hji2
 have hji2p : (IntKind.i64.wrap (1 * 2 ^ min a0.size 64)) = ji2 := hji2_
 have hji2q : (a0.size : Int) ≤ 64 → (IntKind.i64.wrap (1 * 2 ^ a0.size)) = ji2 := hji2z
 have hji2r : (IntKind.i64.wrap (2 ^ min a0.size 64)) = ji2 := by have h_ := hji2p; rw [Int.one_mul] at h_; exact h_
 have hji2s : (a0.size : Int) ≤ 64 → (IntKind.i64.wrap (2 ^ a0.size)) = ji2 := fun hle_ => by have h_ := hji2q hle_; rw [Int.one_mul] at h_; exact h_
 have hji2u : (IntKind.i64.wrap (2 ^ min (a0.size : Int).toNat 64)) = ji2 := by have h_ := hji2_; rw [Int.one_mul] at h_; exact h_
 have hji2v : (a0.size : Int) ≤ 64 → (IntKind.i64.wrap (2 ^ (a0.size : Int).toNat)) = ji2 := fun hle_ => by have h_ := hji2z hle_; rw [Int.one_mul] at h_; exact h_
 have hji2y : (wrap64 (1 * 2 ^ min (a0.size : Int).toNat 64)) = ji2 := (i64_w _).symm.trans hji2_
 have hji2x : (a0.size : Int) ≤ 64 → (wrap64 (1 * 2 ^ (a0.size : Int).toNat)) = ji2 := fun h_ => (i64_w _).symm.trans (hji2z h_)
 replace H := iC H; obtain ⟨c3, H⟩ := H
 have c3b0 := eq_true c3
 have c3b1 := decide_eq_true c3
 clear c3
 replace H := iC H; obtain ⟨c4, H⟩ := H
 have c4b0 := eq_true c4
 have c4b1 := decide_eq_true c4
 clear c4
 replace H := jY H; obtain ⟨y298, Ny298, H⟩ := H
 obtain ⟨y301, Ny301, h_⟩ := yG (α := List Int) (List.replicate (ji2 : Int).toNat 0); rw [← h_] at H; clear h_
 have H' := aM H
 clear H
 go_enter Tryd.func38, Tryd.ntmps38
 try go_wp2
 replace HB := aM (below_drew1 HB.out)
 refine start_ (n := 10) (S := fun w' => True) (ds := []) #[F,F,F,F,F,F,F,F,F,F] (by kernel_rfl) rfl rfl trivial (fun hHeld => ?_); refine with_tabW spec_twFar.tab1 spec_twFar.bits1 (fun HT_ HW_ => ?_)
 generalize w.drew = w5 at HB hHeld ⊢
 refine pU 0 (some 15) #[T,F,F,F,F,F,F,F,F,F] HT_ ?_
 refine pU 1 (some 16) #[T,T,F,F,F,F,F,F,F,F] HT_ ?_
 refine pU 2 (some 17) #[T,T,T,F,F,F,F,F,F,F] HT_ ?_
 refine pU 4 (some 19) #[T,T,T,F,T,F,F,F,F,F] HT_ ?_
 refine pU 5 (some 20) #[T,T,T,F,T,T,F,F,F,F] HT_ ?_
 refine pU 6 (some 21) #[T,T,T,F,T,T,T,F,F,F] HT_ ?_
 refine join_ (σ := Value × Value) 1 #[T,T,T,T,T,T,T,T,T,F] (fun s_ => [(18, s_.1), (22, s_.2), (4, s_.1)]) (fun s_ w' => (Kd.R (Kd.int .i64) 3 w' w.heap.size (fun k_ => some k_ ≠ (s_.2 : Value).ownBlock) s_.1 y298) ∧ (Kd.R (Kd.int .i64) 3 w' w.heap.size (fun k_ => some k_ ≠ (s_.1 : Value).ownBlock) s_.2 y301) ∧ (Below w.heap.size w w')) ?_ ?_
 rotate_left
 ·intro hCont
  refine two_ (i := 3) (j := 7) (Ni := some 18) (Nj := some 22) #[T,T,T,T,T,T,T,F,F,F] #[T,T,T,F,T,T,T,T,F,F] rfl rfl rfl rfl (two_of HT_.out (by kernel_rfl)) (by decide) (by decide) (fun K hK => ?_) (fun K hK => ?_)
  ·skip
   refine Kd.R_make_step (Kd.int .i64) _ 3 (by rfl) (N := 18) rfl 26 _ _ rfl ji2 rfl rfl Tryd.underlying26 (.int .i64 0) 8 info3 rfl (by decide) (by omega) 0 (ok := fun _ => True) (okp := fun _ => True) rfl (fun _ hk => hk) trivial (oD) (Nat.le_trans (Nat.mul_le_mul_right _ (oD : ji2.toNat ≤ 35184372088832)) (by omega)) (Below.refl _ _) (Nat.le_refl _) ?_
   intro v299 w6 ho7 hb hg_ hnew_
   clear hg_ hnew_
   rw [← Ny298.out] at ho7
   have HO300 := aM (Kd.R_lower ho7 (below_size HB.out)); replace HB := aM (below_step HB.out hb); clear hb ho7
   refine hK.out _ _ trivial (fun hHeld => ?_)
   clear hK K
   refine norm_ (a' := ?_) ?_ ?_
   rotate_left
   ·show Act.put _ (some 18) _ = _
    simp only [Act.put, sA, sB, sC, i64_w, i32_w]
    rfl
   refine pU 8 (some 4) #[T,T,T,T,T,T,T,F,T,F] HT_ ?_
   refine one_ (i := 7) (N := some 22) #[T,T,T,T,T,T,T,T,T,F] rfl rfl (one_of HT_.out (by kernel_rfl)) (by decide) (fun K hK => ?_)
   refine Kd.R_make_step (Kd.int .i64) _ 3 (by rfl) (N := 22) rfl 26 _ _ rfl ji2 rfl rfl Tryd.underlying26 (.int .i64 0) 8 info3 rfl (by decide) (by omega) 0 (ok := fun _ => True) (okp := fun _ => True) rfl (fun _ hk => hk) trivial (oD) (Nat.le_trans (Nat.mul_le_mul_right _ (oD : ji2.toNat ≤ 35184372088832)) (by omega)) (Below.refl _ _) (Nat.le_refl _) ?_
   intro v302 w8 ho9 hb hg_ hnew_
   clear hg_ hnew_
   rw [← Ny301.out] at ho9
   have n0_ := aM (Kd.R_elder' HO300.out (Kd.R_base ho9) hb); have n1_ := aM (Kd.R_lower (Kd.R_new' ho9 (Kd.R_lt HO300.out)) (below_size HB.out)); have n2_ := aM (below_step HB.out hb); clear HO300 HB; have HO300 := n0_; have HO303 := n1_; have HB := n2_; clear n0_ n1_ n2_; clear hb ho9
   refine hK.out _ _ trivial (fun hHeld => ?_)
   clear hK K
   refine norm_ (a' := ?_) ?_ ?_
   rotate_left
   ·show Act.put _ (some 22) _ = _
    simp only [Act.put, sA, sB, sC, i64_w, i32_w]
    rfl
   exact norm_ (by simp only [putAll, Act.put, sA, sB, sC]) (hCont (v299, v302) _ ⟨(Kd.R_mono HO300.out (fun _ hk => hk.2)), (Kd.R_mono HO303.out (fun _ hk => hk.2)), HB.out⟩)
  ·skip
   refine Kd.R_make_step (Kd.int .i64) _ 3 (by rfl) (N := 22) rfl 26 _ _ rfl ji2 rfl rfl Tryd.underlying26 (.int .i64 0) 8 info3 rfl (by decide) (by omega) 0 (ok := fun _ => True) (okp := fun _ => True) rfl (fun _ hk => hk) trivial (oD) (Nat.le_trans (Nat.mul_le_mul_right _ (oD : ji2.toNat ≤ 35184372088832)) (by omega)) (Below.refl _ _) (Nat.le_refl _) ?_
   intro v302 w6 ho7 hb hg_ hnew_
   clear hg_ hnew_
   rw [← Ny301.out] at ho7
   have HO303 := aM (Kd.R_lower ho7 (below_size HB.out)); replace HB := aM (below_step HB.out hb); clear hb ho7
   refine hK.out _ _ trivial (fun hHeld => ?_)
   clear hK K
   refine norm_ (a' := ?_) ?_ ?_
   rotate_left
   ·show Act.put _ (some 22) _ = _
    simp only [Act.put, sA, sB, sC, i64_w, i32_w]
    rfl
   refine one_ (i := 3) (N := some 18) #[T,T,T,T,T,T,T,T,F,F] rfl rfl (one_of HT_.out (by kernel_rfl)) (by decide) (fun K hK => ?_)
   refine Kd.R_make_step (Kd.int .i64) _ 3 (by rfl) (N := 18) rfl 26 _ _ rfl ji2 rfl rfl Tryd.underlying26 (.int .i64 0) 8 info3 rfl (by decide) (by omega) 0 (ok := fun _ => True) (okp := fun _ => True) rfl (fun _ hk => hk) trivial (oD) (Nat.le_trans (Nat.mul_le_mul_right _ (oD : ji2.toNat ≤ 35184372088832)) (by omega)) (Below.refl _ _) (Nat.le_refl _) ?_
   intro v299 w8 ho9 hb hg_ hnew_
   clear hg_ hnew_
   rw [← Ny298.out] at ho9
   have n0_ := aM (Kd.R_elder' HO303.out (Kd.R_base ho9) hb); have n1_ := aM (Kd.R_lower (Kd.R_new' ho9 (Kd.R_lt HO303.out)) (below_size HB.out)); have n2_ := aM (below_step HB.out hb); clear HO303 HB; have HO303 := n0_; have HO300 := n1_; have HB := n2_; clear n0_ n1_ n2_; clear hb ho9
   refine hK.out _ _ trivial (fun hHeld => ?_)
   clear hK K
   refine norm_ (a' := ?_) ?_ ?_
   rotate_left
   ·show Act.put _ (some 18) _ = _
    simp only [Act.put, sA, sB, sC, i64_w, i32_w]
    rfl
   refine pU 8 (some 4) #[T,T,T,T,T,T,T,T,T,F] HT_ ?_
   exact norm_ (by simp only [putAll, Act.put, sA, sB, sC]) (hCont (v299, v302) _ ⟨(Kd.R_mono HO300.out (fun _ hk => hk.2)), (Kd.R_mono HO303.out (fun _ hk => hk.2)), HB.out⟩)
 rintro ⟨v299, v302⟩ w10 ⟨h0_, h1_, h2_⟩
 have n0_ : Aside0 (Kd.R (Kd.int .i64) 3 w10 w.heap.size (fun k_ => some k_ ≠ (v302 : Value).ownBlock) v299 y298) := ⟨h0_⟩; have n1_ : Aside0 (Kd.R (Kd.int .i64) 3 w10 w.heap.size (fun k_ => some k_ ≠ (v299 : Value).ownBlock) v302 y301) := ⟨h1_⟩; have n2_ : Aside0 (Below w.heap.size w w10) := ⟨h2_⟩; clear HB; clear h0_ h1_ h2_; have HO300 := n0_; have HO303 := n1_; have HB := n2_; clear n0_ n1_ n2_
 have hHeld := trivial
 refine norm_ (a' := ?_) ?_ ?_
 rotate_left
 ·simp only [putAll, Act.put, sA, sB, sC]
  rfl
 refine pU 9 (some 5) #[T,T,T,T,T,T,T,T,T,T] HT_ ?_
 refine done_ (done_of HT_.out (by kernel_rfl)) ?_
 obtain ⟨Ao11, co11, eo11⟩ := Kd.R_slice HO300.out
 subst eo11
 try go_wp2
 go_loopg [25] k (fun kq v25 w' => ∃ (x4_1 : List Int) (x25_1 : Int), v25 = .int .i64 x25_1 ∧ Aside0 (spec_twFar.l0 kq a0 x4_1 y301 (y298.length : Int) x25_1 = some (r1, r2)) ∧ Aside0 (kq ≤ k) ∧ Aside0 (Kd.R (Kd.int .i64) 3 w' w.heap.size (fun k_ => some k_ ≠ (v302 : Value).ownBlock) (.slice Ao11 y298.length co11) x4_1) ∧ Aside0 (Kd.R (Kd.int .i64) 3 w' w.heap.size (fun k_ => some k_ ≠ ((.slice Ao11 y298.length co11) : Value).ownBlock) v302 y301) ∧ Aside0 (Below w.heap.size w w'))
 case atStart => exact ⟨(y298), (0), rfl, H', ⟨Nat.le_refl _⟩, HO300, HO303, HB⟩
 case round =>
  clear H'
  clear c3b0 c3b1 c4b0 c4b1
  obtain ⟨x4_1, x25_1, rfl, HA, HK1, HO_4, HO_5, HB⟩ := hrel
  have hl4_1 := (Kd.R_reads' HO_4.out).1
  rw [hl4_1] at HO_4
  (try simp only [hl4_1])
  (try simp only [hl4_1] at HO_5)
  cases gk with
  | zero => exact absurd HA.out (by simp [spec_twFar.l0])
  | succ k1 =>
   have H := HA.out
   clear HA
   simp only [spec_twFar.l0] at H
   replace H := iO H; obtain ⟨c12, H⟩ | ⟨c12, H⟩ := H
   ·have c12b0 := decide_eq_true c12
    (try (have c12m0 := c12b0; simp only [hl4_1] at c12m0))
    clear c12
    replace H := iC H; obtain ⟨c13, H⟩ := H
    have c13b0 := decide_eq_true c13
    clear c13
    replace H := iN H; obtain ⟨c14b0, H⟩ := H
    (try (have c14m0 := c14b0; simp only [hl4_1] at c14m0))
    obtain ⟨y304, Ny304, h_⟩ := yG (α := List Int) (x4_1.set (x25_1 : Int).toNat (-1)); rw [← h_] at H; clear h_
    have H' := aM H
    clear H; have p15 : 0 ≤ (x25_1 : Int) := of_decide_eq_true (by first | (with_reducible assumption) | assumption); have q15 : (x25_1 : Int) < ((x4_1.length : Int) : Int) := of_decide_eq_true (by first | (with_reducible assumption) | assumption)
    obtain ⟨go15, co15, eo15, gb15, gl15, cl15, HG15⟩ := Kd.R_form HO_4.out (by omega)
    (first | cases eo15 | (injection eo15 with ea_ en_ ec_; (first | subst ea_ | (injection ea_ with ea_; subst ea_)); subst ec_; clear en_))
    have GB15 := aM gb15
    have GG15 := aM HG15
    clear gb15 gl15 HG15; obtain ⟨hx15_0, hf15_0⟩ := Kd.R_celln 0 HO_4.out (x25_1 : Int) p15 q15; replace p15 := eq_true p15; replace q15 := eq_true q15
    have HP16 := Kd.R_putg HO_4.out (x25_1 : Int) (-1)
    go_wp2_with (first | ((with_reducible refine gate_store (t := 3) (p := 30) rfl ?_); refine store_event (t := 3) (p := 30) (v := ?vo_w17) (w1 := (wr.setCell ⟨go15, (x25_1 : Int).toNat, none⟩ (.int .i64 (-1)))) ?hg ?ho ?hn ?hr ?_; (case ho => rfl); (case hg => rfl); (case hn => rfl); (case hr => first | (go_simp; done) | (go_simp; rfl)); intro w17 hw; have hg : wr.grownBy w17 (some go15) := (by rw [hw]; exact HP16.2); have hp_ : Kd.R (Kd.int .i64) 3 w17 w.heap.size (fun k_ => some k_ ≠ (v302 : Value).ownBlock) (.slice (some ⟨go15, 0, none⟩) x4_1.length co11) y304 := (by rw [hw, Ny304.out]; exact HP16.1); clear HP16; have n0_ := aM (hp_); have n1_ := aM (Kd.R_after (v := (.slice (some ⟨go15, 0, none⟩) x4_1.length co11)) (v1 := (.slice (some ⟨go15, 0, none⟩) x4_1.length co11)) (ok := (fun _ => True)) (by (with_reducible repeat (first | apply rA | apply rN | apply rD)); exact Kd.R_mono HO_5.out (fun _ hk => ⟨trivial, hk⟩)) hg (.inl rfl)); have n2_ := aM ((by rw [hw]; exact below_set (HB.out) GB15.out : Below w.heap.size w w17)); clear HO_4; clear HO_5; clear HB; have HO_4 := n0_; have HO_5 := n1_; have HB := n2_; clear n0_ n1_ n2_; clear hg hw hp_))
    (try simp only [← hl4_1])
    go_roundg k1
    case measure => have := HK1.out; omega
    case rel => exact ⟨(y304), (wrap64 (x25_1 + 1)), (by first | rfl | (simp; done) | (simp [*]; done)), H', ⟨by have := HK1.out; omega⟩, ⟨by (try simp only [hl4_1]); (with_reducible repeat (first | apply rA | apply rN | apply rD)); exact HO_4.out⟩, ⟨by (try simp only [hl4_1]); (with_reducible repeat (first | apply rA | apply rN | apply rD)); exact Kd.R_mono HO_5.out (fun _ hk => hk.2)⟩, ⟨by repeat (first | (with_reducible first | exact HB.out | apply bA | apply bN | apply bD) | exact HB.out)⟩⟩
   ·have c12b0 := decide_eq_false c12
    (try (have c12m0 := c12b0; simp only [hl4_1] at c12m0))
    clear c12
    replace H := jS H; obtain ⟨t305, A18, H⟩ := H
    replace H := iC H; obtain ⟨c19, H⟩ := H
    have c19b0 := decide_eq_true c19
    clear c19
    replace H := iC H; obtain ⟨c20, H⟩ := H
    have c20b0 := decide_eq_true c20
    (try (have c20m0 := c20b0; simp only [hl4_1] at c20m0))
    clear c20
    obtain ⟨y306, Ny306, h_⟩ := yG (α := List Int) (x4_1.set (t305 : Int).toNat 0); rw [← h_] at H; clear h_
    replace H := iC H; obtain ⟨c22, H⟩ := H
    have c22b0 := decide_eq_true c22
    (try (have c22m0 := c22b0; simp only [hl4_1] at c22m0))
    clear c22
    obtain ⟨y307, Ny307, h_⟩ := yG (α := List Int) (y301.set (t305 : Int).toNat 1); rw [← h_] at H; clear h_
    obtain ⟨y308, Ny308, h_⟩ := yG (α := List ByteArray) (([a0] : List ByteArray)); rw [← h_] at H; clear h_
    have H' := aM H
    clear H
    go_wp2_with (first | ((with_reducible refine gate_callee (f := 39) rfl ?_); refine goesL_ (some 33) rfl rfl Tryd.func39 (by kernel_rfl) rfl #[.string a0] rfl (by (try simp only [List.map_toArray, List.map_cons, List.map_nil]); first | done | rfl | (simp only [List.length_drop, List.length_take]; rfl)) ?_; (with_reducible refine (spec_riNumber.calls k1 a0 t305 _ A18.out).mono ?_); rintro e w' ⟨rfl, ⟨nd, rfl⟩⟩; refine ⟨_, rfl, ?_⟩; (try (rw [drewN_self wr]; generalize hq_ : World.drewN wr _ = wr; have n0_ : Aside0 (Kd.R (Kd.int .i64) 3 wr w.heap.size (fun k_ => some k_ ≠ (v302 : Value).ownBlock) (.slice Ao11 x4_1.length co11) x4_1) := ⟨by rw [← hq_]; exact (by (with_reducible repeat (first | apply rA | apply rN | apply rD)); exact HO_4.out)⟩; have n1_ : Aside0 (Kd.R (Kd.int .i64) 3 wr w.heap.size (fun k_ => some k_ ≠ (.slice Ao11 x4_1.length co11 : Value).ownBlock) v302 y301) := ⟨by rw [← hq_]; exact (by (with_reducible repeat (first | apply rA | apply rN | apply rD)); exact HO_5.out)⟩; have n2_ : Aside0 (Below w.heap.size w wr) := ⟨by rw [← hq_]; exact (by repeat (first | (with_reducible first | exact HB.out | apply bA | apply bN | apply bD) | exact HB.out))⟩; clear HO_4 HO_5 HB hq_; have HO_4 := n0_; have HO_5 := n1_; have HB := n2_; clear n0_ n1_ n2_)); have p21 : 0 ≤ (t305 : Int) := of_decide_eq_true (by first | (with_reducible assumption) | assumption); have q21 : (t305 : Int) < ((x4_1.length : Int) : Int) := of_decide_eq_true (by first | (with_reducible assumption) | assumption); obtain ⟨go21, co21, eo21, gb21, gl21, cl21, HG21⟩ := Kd.R_form HO_4.out (by omega); (first | cases eo21 | (injection eo21 with ea_ en_ ec_; (first | subst ea_ | (injection ea_ with ea_; subst ea_)); subst ec_; clear en_)); have GB21 := aM gb21; have GG21 := aM HG21; clear gb21 gl21 HG21; obtain ⟨hx21_0, hf21_0⟩ := Kd.R_celln 0 HO_4.out (t305 : Int) p21 q21; replace p21 := eq_true p21; replace q21 := eq_true q21; obtain ⟨hy24_, hz24_⟩ := Kd.R_celln 0 HO_4.out (t305 : Int) (of_decide_eq_true (by first | (with_reducible assumption) | assumption)) (of_decide_eq_true (by first | (with_reducible assumption) | assumption)); have HP24 := Kd.R_putg HO_4.out (t305 : Int) 0) | ((with_reducible refine gate_store (t := 3) (p := 36) rfl ?_); refine store_event (t := 3) (p := 36) (v := ?vo_w25) (w1 := (wr.setCell ⟨go21, (t305 : Int).toNat, none⟩ (.int .i64 0))) ?hg ?ho ?hn ?hr ?_; (case ho => rfl); (case hg => rfl); (case hn => rfl); (case hr => first | (go_simp; done) | (go_simp; rfl)); intro w25 hw; have hg : wr.grownBy w25 (some go21) := (by rw [hw]; exact HP24.2); have hp_ : Kd.R (Kd.int .i64) 3 w25 w.heap.size (fun k_ => some k_ ≠ (v302 : Value).ownBlock) (.slice (some ⟨go21, 0, none⟩) x4_1.length co11) y306 := (by rw [hw, Ny306.out]; exact HP24.1); clear HP24; have n0_ := aM (hp_); have n1_ := aM (Kd.R_after (v := (.slice (some ⟨go21, 0, none⟩) x4_1.length co11)) (v1 := (.slice (some ⟨go21, 0, none⟩) x4_1.length co11)) (ok := (fun _ => True)) (by (with_reducible repeat (first | apply rA | apply rN | apply rD)); exact Kd.R_mono HO_5.out (fun _ hk => ⟨trivial, hk⟩)) hg (.inl rfl)); have n2_ := aM ((by rw [hw]; exact below_set (HB.out) GB21.out : Below w.heap.size w w25)); clear HO_4; clear HO_5; clear HB; have HO_4 := n0_; have HO_5 := n1_; have HB := n2_; clear n0_ n1_ n2_; clear hg hw hp_; have p23 : 0 ≤ (t305 : Int) := of_decide_eq_true (by first | (with_reducible assumption) | assumption); have q23 : (t305 : Int) < ((y301.length : Int) : Int) := of_decide_eq_true (by first | (with_reducible assumption) | assumption); obtain ⟨go23, co23, eo23, gb23, gl23, cl23, HG23⟩ := Kd.R_form HO_5.out (by omega); (first | cases eo23 | (injection eo23 with ea_ en_ ec_; (first | subst ea_ | (injection ea_ with ea_; subst ea_)); subst ec_; clear en_)); have GB23 := aM gb23; have GG23 := aM HG23; clear gb23 gl23 HG23; obtain ⟨hx23_0, hf23_0⟩ := Kd.R_celln 0 HO_5.out (t305 : Int) p23 q23; replace p23 := eq_true p23; replace q23 := eq_true q23; have n_ := aM (Kd.R_mono (ok' := (fun k_ => some k_ ≠ (.slice (some ⟨go21, 0, none⟩) x4_1.length co11 : Value).ownBlock)) HO_5.out (fun k_ hk => hk.2)); clear HO_5; have HO_5 := n_; clear n_; obtain ⟨hy26_, hz26_⟩ := Kd.R_celln 0 HO_5.out (t305 : Int) (of_decide_eq_true (by first | (with_reducible assumption) | assumption)) (of_decide_eq_true (by first | (with_reducible assumption) | assumption)); have HP26 := Kd.R_putg HO_5.out (t305 : Int) 1) | ((with_reducible refine gate_store (t := 3) (p := 39) rfl ?_); refine store_event (t := 3) (p := 39) (v := ?vo_w27) (w1 := (w25.setCell ⟨go23, (t305 : Int).toNat, none⟩ (.int .i64 1))) ?hg ?ho ?hn ?hr ?_; (case ho => rfl); (case hg => rfl); (case hn => rfl); (case hr => first | (go_simp; done) | (go_simp; rfl)); intro w27 hw; have hg : w25.grownBy w27 (some go23) := (by rw [hw]; exact HP26.2); have hp_ : Kd.R (Kd.int .i64) 3 w27 w.heap.size (fun k_ => some k_ ≠ (.slice (some ⟨go21, 0, none⟩) x4_1.length co11 : Value).ownBlock) (.slice (some ⟨go23, 0, none⟩) y301.length co23) y307 := (by rw [hw, Ny307.out]; exact HP26.1); clear HP26; have n0_ := aM (Kd.R_after (v := (.slice (some ⟨go23, 0, none⟩) y301.length co23)) (v1 := (.slice (some ⟨go23, 0, none⟩) y301.length co23)) (ok := (fun _ => True)) (by (with_reducible repeat (first | apply rA | apply rN | apply rD)); exact Kd.R_mono HO_4.out (fun _ hk => ⟨trivial, hk⟩)) hg (.inl rfl)); have n1_ := aM (hp_); have n2_ := aM ((by rw [hw]; exact below_set (HB.out) GB23.out : Below w.heap.size w w27)); clear HO_4; clear HO_5; clear HB; have HO_4 := n0_; have HO_5 := n1_; have HB := n2_; clear n0_ n1_ n2_; clear hg hw hp_) | ((with_reducible refine gate_dst (N := 41) rfl ?_); refine Kd.R_lit Kd.string _ 9 ?hg (N := 41) ?hd (xs := ([a0] : List ByteArray)) (inner := [.string a0]) (ok := fun _ => True) (okp := fun _ => True) ?hr ?hp (fun _ hk => hk) trivial (Below.refl _ _) (Nat.le_refl _) (by simp) ?_; (case hd => rfl); (case hg => rfl); (case hr => first | (go_simp; done) | (go_simp; rfl)); (case hp => exact (Reps.one (show Kd.M Kd.string _ _ _ a0 [.string a0] from rfl) (Reps.none _ _))); intro v309 w28 ho29 hb hg_ hnew_; clear hg_ hnew_; (first | rw [← Ny308.out] at ho29 | (simp only [Int.reduceToNat] at ho29; rw [← Ny308.out] at ho29)); have n0_ := aM (Kd.R_below (by (with_reducible repeat (first | apply rA | apply rN | apply rD)); exact HO_4.out) hb); have n1_ := aM (Kd.R_below (by (with_reducible repeat (first | apply rA | apply rN | apply rD)); exact HO_5.out) hb); have n2_ := aM (Kd.R_lower ho29 (below_size (by repeat (first | (with_reducible first | exact HB.out | apply bA | apply bN | apply bD) | exact HB.out)))); have n3_ := aM (below_step (by repeat (first | (with_reducible first | exact HB.out | apply bA | apply bN | apply bD) | exact HB.out)) hb); clear HO_4; clear HO_5; clear HB; have HO_4 := n0_; have HO_5 := n1_; have HO310 := n2_; have HB := n3_; clear n0_ n1_ n2_ n3_; clear hb ho29))
    go_loopg [8, 9] k1 (fun kq v8 v9 w' => ∃ (x4_2 : List Int) (x5_2 : List Int) (x8_2 : List ByteArray) (x9_2 : Int), v9 = .int .i64 x9_2 ∧ Aside0 (spec_twFar.l1 kq x4_2 x5_2 x8_2 x9_2 = some (r1, r2)) ∧ Aside0 (kq ≤ k1) ∧ Aside0 (Kd.R (Kd.int .i64) 3 w' w.heap.size (fun k_ => some k_ ≠ ((.slice (some ⟨go23, 0, none⟩) y301.length co23) : Value).ownBlock) (.slice (some ⟨go21, 0, none⟩) x4_1.length co11) x4_2) ∧ Aside0 (Kd.R (Kd.int .i64) 3 w' w.heap.size (fun k_ => some k_ ≠ ((.slice (some ⟨go21, 0, none⟩) x4_1.length co11) : Value).ownBlock) (.slice (some ⟨go23, 0, none⟩) y301.length co23) x5_2) ∧ Aside0 (Kd.R Kd.string 9 w' w.heap.size (fun _ => True) v8 x8_2) ∧ Aside0 (Below w.heap.size w w'))
    case atStart => exact ⟨(y306), (y307), (y308), (0), rfl, H', ⟨Nat.le_refl _⟩, ⟨Kd.R_mono HO_4.out (fun _ hk => hk.2)⟩, HO_5, HO310, HB⟩
    case round =>
     clear H'
     clear c12b0 c19b0 c20b0 p21 q21 c22b0 p23 q23 hx21_0 hx23_0
     obtain ⟨x4_2, x5_2, x8_2, x9_2, rfl, HA, HK2, HO_4, HO_5, HO_8, HB⟩ := hrel
     have hl4_2 := (Kd.R_reads' HO_4.out).1
     rw [hl4_2] at HO_4
     (try simp only [hl4_2])
     (try simp only [hl4_2] at HO_5)
     (try simp only [hl4_2] at HO_8)
     have hl5_2 := (Kd.R_reads' HO_5.out).1
     rw [hl5_2] at HO_5
     (try simp only [hl5_2])
     (try simp only [hl5_2] at HO_4)
     (try simp only [hl5_2] at HO_8)
     cases gk with
     | zero => exact absurd HA.out (by simp [spec_twFar.l1])
     | succ k2 =>
      have H := HA.out
      clear HA
      simp only [spec_twFar.l1] at H
      replace H := iO H; obtain ⟨c30, H⟩ | ⟨c30, H⟩ := H
      ·have c30b0 := decide_eq_true c30
       (try (have c30m0 := c30b0; simp only [hl4_1] at c30m0)); (try (have c30m1 := c30b0; simp only [hl4_2] at c30m1)); (try (have c30m2 := c30b0; simp only [hl5_2] at c30m2))
       clear c30
       replace H := iC H; obtain ⟨c31, H⟩ := H
       have c31b0 := decide_eq_true c31
       clear c31
       replace H := jS H; obtain ⟨t312, A32, H⟩ := H
       replace H := jS H; obtain ⟨t314, A33, H⟩ := H
       have H' := aM H
       clear H
       obtain ⟨Ao34, co34, eo34⟩ := Kd.R_slice HO_8.out
       subst eo34
       obtain ⟨ad311, e311, hx311_0, p311, q311⟩ := aZ (Kd.at_string (Kd.R_reads' HO_8.out).2.2 x9_2); cases e311
       go_wp2_with (first | ((with_reducible refine gC 39 rfl ?_); refine gL (some 52) Tryd.func39 #[.string (rdOf ByteArray.empty x8_2 x9_2)] ?_; (with_reducible refine (spec_riNumber.calls k2 (rdOf ByteArray.empty x8_2 x9_2) t312 _ A32.out).mono ?_); rintro e w' ⟨rfl, ⟨nd, rfl⟩⟩; refine ⟨_, rfl, ?_⟩; obtain ⟨ad313, e313, hx313_0, p313, q313⟩ := aZ (Kd.at_string (Kd.R_reads' HO_8.out).2.2 x9_2); cases e313) | ((with_reducible refine gC 50 rfl ?_); refine gL (some 57) Tryd.func50 #[.string (rdOf ByteArray.empty x8_2 x9_2)] ?_; (with_reducible refine (spec_twMoves.calls k2 (rdOf ByteArray.empty x8_2 x9_2) t314 _ A33.out).mono ?_); rintro e w35 ⟨v315, rfl, ho0, hb⟩; refine ⟨_, rfl, ?_⟩; have n0_ := aM (Kd.R_elder' (rQ HO_4.out) (Kd.R_base ho0) hb); have n1_ := aM (Kd.R_elder' (rQ HO_5.out) (Kd.R_base ho0) hb); have n2_ := aM (Kd.R_below (rQ HO_8.out) hb); have n3_ := aM (Kd.R_lower (Kd.R_new' (Kd.R_new' ho0 (Kd.R_lt (rQ HO_4.out))) (Kd.R_lt (rQ HO_5.out))) (below_size bQ)); have n4_ := aM (below_step bQ hb); clear HO_4; clear HO_5; clear HO_8; clear HB; have HO_4 := n0_; have HO_5 := n1_; have HO_8 := n2_; have HO316 := n3_; have HB := n4_; clear n0_ n1_ n2_ n3_ n4_; (try clear hb); (try clear hb2); (try clear hk); (try clear hi); (try clear ho0); obtain ⟨Ao36, co36, eo36⟩ := Kd.R_slice HO316.out; subst eo36))
       go_loopg [8, 59] k2 (fun kq v8 v59 w' => ∃ (x4_3 : List Int) (x5_3 : List Int) (x8_3 : List ByteArray) (x59_3 : Int), v59 = .int .i64 x59_3 ∧ Aside0 (spec_twFar.l2 kq x4_3 x5_3 x8_3 x9_2 t312 t314 (t314.length : Int) x59_3 = some (r1, r2)) ∧ Aside0 (kq ≤ k2) ∧ Aside0 (Kd.R (Kd.int .i64) 3 w' w.heap.size (fun k_ => some k_ ≠ ((.slice (some ⟨go23, 0, none⟩) x5_2.length co23) : Value).ownBlock ∧ some k_ ≠ ((.slice Ao36 t314.length co36) : Value).ownBlock) (.slice (some ⟨go21, 0, none⟩) x4_2.length co11) x4_3) ∧ Aside0 (Kd.R (Kd.int .i64) 3 w' w.heap.size (fun k_ => some k_ ≠ ((.slice (some ⟨go21, 0, none⟩) x4_2.length co11) : Value).ownBlock ∧ some k_ ≠ ((.slice Ao36 t314.length co36) : Value).ownBlock) (.slice (some ⟨go23, 0, none⟩) x5_2.length co23) x5_3) ∧ Aside0 (Kd.R Kd.string 9 w' w.heap.size (fun _ => True) v8 x8_3) ∧ Aside0 (Kd.R (Kd.int .i64) 3 w' w.heap.size (fun k_ => some k_ ≠ ((.slice (some ⟨go21, 0, none⟩) x4_2.length co11) : Value).ownBlock ∧ some k_ ≠ ((.slice (some ⟨go23, 0, none⟩) x5_2.length co23) : Value).ownBlock) (.slice Ao36 t314.length co36) t314) ∧ Aside0 (Below w.heap.size w w'))
       case atStart => exact ⟨(x4_2), (x5_2), (x8_2), (0), rfl, H', ⟨Nat.le_refl _⟩, HO_4, HO_5, HO_8, ⟨by (try simp only [hl4_1]); (try simp only [hl4_2]); (try simp only [hl5_2]); (with_reducible repeat (first | apply rA | apply rN | apply rD)); exact Kd.R_mono HO316.out (fun _ hk => ⟨hk.1.2, hk.2⟩)⟩, HB⟩
       case round =>
        clear H'
        clear c30b0 c31b0 hx311_0 hx313_0 p311 p313 q311 q313
        obtain ⟨x4_3, x5_3, x8_3, x59_3, rfl, HA, HK3, HO_4, HO_5, HO_8, HO_57, HB⟩ := hrel
        have hl4_3 := (Kd.R_reads' HO_4.out).1
        rw [hl4_3] at HO_4
        (try simp only [hl4_3])
        (try simp only [hl4_3] at HO_5)
        (try simp only [hl4_3] at HO_8)
        (try simp only [hl4_3] at HO_57)
        have hl5_3 := (Kd.R_reads' HO_5.out).1
        rw [hl5_3] at HO_5
        (try simp only [hl5_3])
        (try simp only [hl5_3] at HO_4)
        (try simp only [hl5_3] at HO_8)
        (try simp only [hl5_3] at HO_57)
        cases gk with
        | zero => exact absurd HA.out (by simp [spec_twFar.l2])
        | succ k3 =>
         have H := HA.out
         clear HA
         simp only [spec_twFar.l2] at H
         replace H := iO H; obtain ⟨c37, H⟩ | ⟨c37, H⟩ := H
         ·have c37b0 := decide_eq_true c37
          (try (have c37m0 := c37b0; simp only [hl4_1] at c37m0)); (try (have c37m1 := c37b0; simp only [hl4_2] at c37m1)); (try (have c37m2 := c37b0; simp only [hl5_2] at c37m2)); (try (have c37m3 := c37b0; simp only [hl4_3] at c37m3)); (try (have c37m4 := c37b0; simp only [hl5_3] at c37m4))
          clear c37
          replace H := iC H; obtain ⟨c38, H⟩ := H
          have c38b0 := decide_eq_true c38
          clear c38
          replace H := iC H; obtain ⟨c39, H⟩ := H
          have c39b0 := decide_eq_true c39
          (try (have c39m0 := c39b0; simp only [hl4_1] at c39m0)); (try (have c39m1 := c39b0; simp only [hl4_2] at c39m1)); (try (have c39m2 := c39b0; simp only [hl5_2] at c39m2)); (try (have c39m3 := c39b0; simp only [hl4_3] at c39m3)); (try (have c39m4 := c39b0; simp only [hl5_3] at c39m4))
          clear c39
          replace H := iC H; obtain ⟨c40, H⟩ := H
          have c40b0 := decide_eq_true c40
          clear c40
          replace H := iN H; obtain ⟨c41b0, H⟩ := H
          (try (have c41m0 := c41b0; simp only [hl4_1] at c41m0)); (try (have c41m1 := c41b0; simp only [hl4_2] at c41m1)); (try (have c41m2 := c41b0; simp only [hl5_2] at c41m2)); (try (have c41m3 := c41b0; simp only [hl4_3] at c41m3)); (try (have c41m4 := c41b0; simp only [hl5_3] at c41m4))
          replace H := jS H; obtain ⟨t319, A42, H⟩ := H
          replace H := jS H; obtain ⟨t320, A43, H⟩ := H
          replace H := iC H; obtain ⟨c44, H⟩ := H
          have c44b0 := decide_eq_true c44
          clear c44
          replace H := iC H; obtain ⟨c45, H⟩ := H
          have c45b0 := decide_eq_true c45
          (try (have c45m0 := c45b0; simp only [hl4_1] at c45m0)); (try (have c45m1 := c45b0; simp only [hl4_2] at c45m1)); (try (have c45m2 := c45b0; simp only [hl5_2] at c45m2)); (try (have c45m3 := c45b0; simp only [hl4_3] at c45m3)); (try (have c45m4 := c45b0; simp only [hl5_3] at c45m4))
          clear c45
          replace H := iO H; obtain ⟨c46, H⟩ | ⟨c46, H⟩ := H
          ·have c46b0 := decide_eq_true c46
           clear c46
           replace H := iC H; obtain ⟨c47, H⟩ := H
           have c47b0 := decide_eq_true c47
           clear c47
           replace H := iN H; obtain ⟨c48b0, H⟩ := H
           (try (have c48m0 := c48b0; simp only [hl4_1] at c48m0)); (try (have c48m1 := c48b0; simp only [hl4_2] at c48m1)); (try (have c48m2 := c48b0; simp only [hl5_2] at c48m2)); (try (have c48m3 := c48b0; simp only [hl4_3] at c48m3)); (try (have c48m4 := c48b0; simp only [hl5_3] at c48m4))
           replace H := jY H; obtain ⟨y323, Ny323, H⟩ := H
           replace H := iC H; obtain ⟨c50, H⟩ := H
           have LMc50 := aM c50
           clear c50
           replace H := jY H; obtain ⟨y324, Ny324, H⟩ := H
           replace H := iO H; obtain ⟨c51, H⟩ | ⟨c51, H⟩ := H
           ·have c51b0 : ((rd y323 t320) == (wrap64 ((rd y323 t312) + 1))) = true := beq_iff_eq.mpr c51
            have c51b1 : ((rd y323 t320) != (wrap64 ((rd y323 t312) + 1))) = false := bne_eq_false_iff_eq.mpr c51
            clear c51
            replace H := iC H; obtain ⟨c52, H⟩ := H
            have c52b0 := decide_eq_true c52
            (try (have c52m0 := c52b0; simp only [hl4_1] at c52m0)); (try (have c52m1 := c52b0; simp only [hl4_2] at c52m1)); (try (have c52m2 := c52b0; simp only [hl5_2] at c52m2)); (try (have c52m3 := c52b0; simp only [hl4_3] at c52m3)); (try (have c52m4 := c52b0; simp only [hl5_3] at c52m4))
            clear c52
            replace H := iN H; obtain ⟨c53b0, H⟩ := H
            (try (have c53m0 := c53b0; simp only [hl4_1] at c53m0)); (try (have c53m1 := c53b0; simp only [hl4_2] at c53m1)); (try (have c53m2 := c53b0; simp only [hl5_2] at c53m2)); (try (have c53m3 := c53b0; simp only [hl4_3] at c53m3)); (try (have c53m4 := c53b0; simp only [hl5_3] at c53m4))
            obtain ⟨y331, hy331⟩ : ∃ y_ : List Int, y_ = (x5_3.set (t320 : Int).toNat (wrap64 ((rd x5_3 t320) + (rd x5_3 t312)))) := ⟨_, rfl⟩
            replace H : (spec_twFar.l2 k3 y323 y331 y324 x9_2 t312 t314 (t314.length : Int) (wrap64 (x59_3 + 1))) = some (r1, r2) := by first | (rw [hy331]; with_reducible exact H) | (have H2_ := (Option.bind_some _ _).symm.trans H; rw [hy331]; with_reducible exact H2_) | (have H2_ := (Option.bind_some _ _).symm.trans H; with_reducible exact H2_) | with_reducible exact H | (rw [hy331]; exact H) | exact H
            have Ny331 := aM hy331
            clear hy331
            have H' := aM H
            clear H; have p317 : 0 ≤ (x59_3 : Int) := of_decide_eq_true (by first | (with_reducible assumption) | assumption); have q317 : x59_3 < (t314.length : Int) := of_decide_eq_true (by first | (with_reducible assumption) | assumption); obtain ⟨ad317, e317, hx317_0⟩ := Kd.at_int (Kd.R_reads' HO_57.out).2.2 x59_3 p317 q317; cases e317; replace p317 := eq_true p317; replace q317 := eq_true q317
            obtain ⟨Ao55, co55, eo55⟩ := Kd.R_slice HO_8.out
            subst eo55
            obtain ⟨ad318, e318, hx318_0, p318, q318⟩ := aZ (Kd.at_string (Kd.R_reads' HO_8.out).2.2 x9_2); cases e318
            try go_wp2_with (first | ((with_reducible refine gC 51 rfl ?_); refine gL (some 68) Tryd.func51 #[.string (rdOf ByteArray.empty x8_3 x9_2), .int .i64 (rd t314 x59_3)] ?_; (with_reducible refine (spec_twMake.calls (rdOf ByteArray.empty x8_3 x9_2) (rd t314 x59_3) t319 _ A42.out).mono ?_); rintro e w' ⟨rfl, ⟨nd, rfl⟩⟩; refine ⟨_, rfl, ?_⟩; (try (rw [drewN_self wr]; generalize hq_ : World.drewN wr _ = wr; replace HO_4 := dR hq_ HO_4; replace HO_5 := dR hq_ HO_5; replace HO_8 := dR hq_ HO_8; replace HO_57 := dR hq_ HO_57; replace HB := dB hq_ HB; clear hq_))) | ((with_reducible refine gC 39 rfl ?_); refine gL (some 70) Tryd.func39 #[.string t319] ?_; (with_reducible refine (spec_riNumber.calls k3 t319 t320 _ A43.out).mono ?_); rintro e w' ⟨rfl, ⟨nd, rfl⟩⟩; refine ⟨_, rfl, ?_⟩; (try (rw [drewN_self wr]; generalize hq_ : World.drewN wr _ = wr; replace HO_4 := dR hq_ HO_4; replace HO_5 := dR hq_ HO_5; replace HO_8 := dR hq_ HO_8; replace HO_57 := dR hq_ HO_57; replace HB := dB hq_ HB; clear hq_)); obtain ⟨hx321_0, p321, q321⟩ := aY (Kd.at_int (Kd.R_reads' HO_4.out).2.2 t320); obtain ⟨hx322_0, p322, q322⟩ := aY (Kd.at_int (Kd.R_reads' HO_4.out).2.2 t312); obtain ⟨hx49_0, hf49_0, p49, q49⟩ := aC (Kd.R_celln 0 HO_4.out (t320 : Int)); obtain ⟨hy56_, hz56_⟩ := Kd.R_celln 0 HO_4.out (t320 : Int) (oD) (oD); have HP56 := Kd.R_putg HO_4.out (t320 : Int) (wrap64 ((rd x4_3 t312) + 1))) | ((with_reducible refine gate_store (t := 3) (p := 83) rfl ?_); refine store_event (t := 3) (p := 83) (v := ?vo_w57) (w1 := (wr.setCell ⟨go21, (t320 : Int).toNat, none⟩ (.int .i64 (wrap64 ((rd x4_3 t312) + 1))))) ?hg ?ho ?hn ?hr ?_; (case ho => rfl); (case hg => rfl); (case hn => rfl); (case hr => go_simp); intro w57 hw; have hg : wr.grownBy w57 (some go21) := (by rw [hw]; exact HP56.2); have hp_ : Kd.R (Kd.int .i64) 3 w57 w.heap.size (fun k_ => some k_ ≠ (.slice (some ⟨go23, 0, none⟩) x5_3.length co23 : Value).ownBlock ∧ some k_ ≠ (.slice (some ad317) t314.length co36 : Value).ownBlock) (.slice (some ⟨go21, 0, none⟩) x4_3.length co11) y323 := (by rw [hw, Ny323.out]; exact HP56.1); clear HP56; replace HO_5 := aM (Kd.R_after (v := (.slice (some ⟨go21, 0, none⟩) x4_3.length co11)) (v1 := (.slice (some ⟨go21, 0, none⟩) x4_3.length co11)) (ok := (fun k_ => some k_ ≠ (.slice (some ad317) t314.length co36 : Value).ownBlock)) (Kd.R_mono HO_5.out (fun _ hk => ⟨hk.2, hk.1⟩)) hg (.inl rfl)); replace HO_8 := aM (Kd.R_over' (v := (.slice (some ⟨go21, 0, none⟩) x4_3.length co11)) HO_8.out (Kd.R_typed HO_4.out) (by decide) hg); replace HO_4 := aM (hp_); replace HO_57 := aM (Kd.R_after (v := (.slice (some ⟨go21, 0, none⟩) x4_3.length co11)) (v1 := (.slice (some ⟨go21, 0, none⟩) x4_3.length co11)) (ok := (fun k_ => some k_ ≠ (.slice (some ⟨go23, 0, none⟩) x5_3.length co23 : Value).ownBlock)) (Kd.R_mono HO_57.out (fun _ hk => ⟨hk.2, hk.1⟩)) hg (.inl rfl)); replace HB := aM ((by rw [hw]; exact below_set (HB.out) GB21.out : Below w.heap.size w w57)); clear hg hw hp_) | ((with_reducible refine gate_builtin (b := .append) (xs := #[.tmp 84, .tmp 86]) rfl ?_); at_builtin; refine Kd.R_append Kd.string (w0 := w) w.heap.size rfl (.tmp 84) (.tmp 86) 44 9 (.string ⟨#[]⟩) 16 rfl Tryd.underlying44 info9 rfl (by decide) (by omega) (.slice (some ad318) x8_3.length co55) x8_3 t319 [.string t319] (fun _ => True) (fun _ => False) rfl rfl ?aP (fun _ hk => hk.elim) ?aF ?aO ?aB ?aS ?aL ?_; (case aP => exact rfl); (case aB => exact HB.out); (case aF => exact (fun _ _ => trivial)); (case aO => exact HO_8.out); (case aS => exact (below_size HB.out)); (case aL => have := LMc50.out; omega); intro v325 w58 ho hb hg hat; rw [← Ny324.out] at ho; replace HO_4 := aM (Kd.R_over' HO_4.out (Kd.R_typed HO_8.out) (by decide) hg); replace HO_5 := aM (Kd.R_over' HO_5.out (Kd.R_typed HO_8.out) (by decide) hg); replace HO_57 := aM (Kd.R_over' HO_57.out (Kd.R_typed HO_8.out) (by decide) hg); replace HB := aM (hb); have HO326 := aM (ho); clear ho hb hg hat))
            have n0_ := aM (Kd.R_drew HO_4.out); have n1_ := aM (Kd.R_drew HO_5.out); have n2_ := aM (Kd.R_drew HO_57.out); have n3_ := aM (Kd.R_drew HO326.out); have n4_ := aM (below_drew1 HB.out); clear HO_4 HO_5 HO_57 HO326 HB; have HO_4 := n0_; have HO_5 := n1_; have HO_57 := n2_; have HO326 := n3_; have HB := n4_; clear n0_ n1_ n2_ n3_ n4_; have p327 : 0 ≤ (t320 : Int) := oD
            have q327 : t320 < (y323.length : Int) := (by have h_ : (t320 : Int) < ((x4_3.length : Int) : Int) := oD; first | (have e_ := (Kd.R_reads' HO_4.out).1; omega) | simpa only [Ny323.out, List.length_set] using h_)
            have ql327 : ((t320 : Int) < ((x4_3.length : Int) : Int)) = True := eq_true (oD)
            obtain ⟨ad327, e327, hx327_0⟩ := Kd.at_int (Kd.R_reads' HO_4.out).2.2 t320 p327 q327; obtain rfl : (⟨go21, 0, none⟩ : Addr) = ad327 := (by injection e327); (first | simp only [add_plain] at hx327_0 | simp only [add_at] at hx327_0 | simp only [Addr.add, Nat.zero_add] at hx327_0 | skip); replace p327 := eq_true p327; replace q327 := eq_true q327; have p328 : 0 ≤ (t312 : Int) := oD
            have q328 : t312 < (y323.length : Int) := (by have h_ : (t312 : Int) < ((x4_3.length : Int) : Int) := oD; first | (have e_ := (Kd.R_reads' HO_4.out).1; omega) | simpa only [Ny323.out, List.length_set] using h_)
            have ql328 : ((t312 : Int) < ((x4_3.length : Int) : Int)) = True := eq_true (oD)
            obtain ⟨ad328, e328, hx328_0⟩ := Kd.at_int (Kd.R_reads' HO_4.out).2.2 t312 p328 q328; obtain rfl : (⟨go21, 0, none⟩ : Addr) = ad328 := (by injection e328); (first | simp only [add_plain] at hx328_0 | simp only [add_at] at hx328_0 | simp only [Addr.add, Nat.zero_add] at hx328_0 | skip); replace p328 := eq_true p328; replace q328 := eq_true q328
            refine start_ (n := 10) (S := fun w' => w'.cell? ⟨go21, (t320).toNat, none⟩ = some (.int .i64 (rd y323 t320)) ∧ w'.cell? ⟨go21, (t312).toNat, none⟩ = some (.int .i64 (rd y323 t312))) (ds := []) #[F,F,F,F,F,F,F,F,F,F] (by kernel_rfl) rfl rfl ⟨hx327_0, hx328_0⟩ (fun hHeld => ?_); refine with_tabW spec_twFar.tab23 spec_twFar.bits23 (fun HT_ HW_ => ?_)
            generalize w58.drew = w59 at HO_4 HO_5 HO_57 HO326 HB hx327_0 hx328_0 hHeld ⊢
            refine pU 0 (some 88) #[T,F,F,F,F,F,F,F,F,F] HT_ ?_
            refine pU 1 (some 89) #[T,T,F,F,F,F,F,F,F,F] HT_ ?_
            refine pU 2 (some 90) #[T,T,T,F,F,F,F,F,F,F] HT_ ?_
            refine pU 4 (some 92) #[T,T,T,F,T,F,F,F,F,F] HT_ ?_
            refine pU 5 (some 93) #[T,T,T,F,T,T,F,F,F,F] HT_ ?_
            refine pU 6 (some 94) #[T,T,T,F,T,T,T,F,F,F] HT_ ?_
            refine take_ (i := 3) (N := some 91) (v := ?_) (a' := ?_) #[T,T,T,T,T,T,T,F,F,F] rfl rfl (take_ofW HT_.out HW_.out (by kernel_rfl)) (fun _ _ _ h => h) (Or.inl ⟨by rfl, ?_⟩) hHeld ?_ ?_
            rotate_left
            ·rintro w' ⟨s0, s1⟩
             go_simp
             with_reducible rfl
            rotate_left
            ·simp only [Act.put, sA, sB, sC, i64_w, i32_w]
             rfl
            refine take_ (i := 7) (N := some 95) (v := ?_) (a' := ?_) #[T,T,T,T,T,T,T,T,F,F] rfl rfl (take_ofW HT_.out HW_.out (by kernel_rfl)) (fun _ _ _ h => h) (Or.inl ⟨by rfl, ?_⟩) hHeld ?_ ?_
            rotate_left
            ·rintro w' ⟨s0, s1⟩
             go_simp
             with_reducible rfl
            rotate_left
            ·simp only [Act.put, sA, sB, sC, i64_w, i32_w]
             rfl
            refine pU 8 (some 96) #[T,T,T,T,T,T,T,T,T,F] HT_ ?_
            refine pU 9 (some 97) #[T,T,T,T,T,T,T,T,T,T] HT_ ?_
            refine done_ (done_of HT_.out (by kernel_rfl)) ?_
            try go_wp2
            have n0_ := aM (Kd.R_drew HO_4.out); have n1_ := aM (Kd.R_drew HO_5.out); have n2_ := aM (Kd.R_drew HO_57.out); have n3_ := aM (Kd.R_drew HO326.out); have n4_ := aM (below_drew1 HB.out); clear HO_4 HO_5 HO_57 HO326 HB; have HO_4 := n0_; have HO_5 := n1_; have HO_57 := n2_; have HO326 := n3_; have HB := n4_; clear n0_ n1_ n2_ n3_ n4_; obtain ⟨hx329_0, p329, q329⟩ := aY (Kd.at_int (Kd.R_reads' HO_5.out).2.2 t320); obtain ⟨hx330_0, p330, q330⟩ := aY (Kd.at_int (Kd.R_reads' HO_5.out).2.2 t312); obtain ⟨hx54_0, hf54_0, p54, q54⟩ := aC (Kd.R_celln 0 HO_5.out (t320 : Int))
            have HP61 := Kd.R_putn HO_5.out (t320 : Int) (wrap64 ((rd x5_3 t320) + (rd x5_3 t312)))
            rw [← Ny331.out] at HP61
            have HQ61 := aM HP61
            clear HP61
            refine start_ (n := 11) (S := fun w' => w'.cell? ⟨go23, (t320).toNat, none⟩ = some (.int .i64 (rd x5_3 t320)) ∧ w'.cell? ⟨go23, (t312).toNat, none⟩ = some (.int .i64 (rd x5_3 t312))) (ds := [10]) #[F,F,F,F,F,F,F,F,F,F,F] (by kernel_rfl) rfl rfl ⟨hx329_0, hx330_0⟩ (fun hHeld => ?_); refine with_tabW spec_twFar.tab24 spec_twFar.bits24 (fun HT_ HW_ => ?_)
            generalize w59.drew = w60 at HO_4 HO_5 HO_57 HO326 HB HQ61 hf54_0 hx329_0 hx330_0 hx54_0 hHeld ⊢
            refine pU 0 (some 98) #[T,F,F,F,F,F,F,F,F,F,F] HT_ ?_
            refine pU 1 (some 99) #[T,T,F,F,F,F,F,F,F,F,F] HT_ ?_
            refine pU 2 (some 100) #[T,T,T,F,F,F,F,F,F,F,F] HT_ ?_
            refine pU 4 (some 102) #[T,T,T,F,T,F,F,F,F,F,F] HT_ ?_
            refine pU 5 (some 103) #[T,T,T,F,T,T,F,F,F,F,F] HT_ ?_
            refine pU 6 (some 104) #[T,T,T,F,T,T,T,F,F,F,F] HT_ ?_
            refine take_ (i := 3) (N := some 101) (v := ?_) (a' := ?_) #[T,T,T,T,T,T,T,F,F,F,F] rfl rfl (take_ofW HT_.out HW_.out (by kernel_rfl)) (fun _ _ _ h => h) (Or.inl ⟨by rfl, ?_⟩) hHeld ?_ ?_
            rotate_left
            ·rintro w' ⟨s0, s1⟩
             go_simp
             with_reducible rfl
            rotate_left
            ·simp only [Act.put, sA, sB, sC, i64_w, i32_w]
             rfl
            refine take_ (i := 7) (N := some 105) (v := ?_) (a' := ?_) #[T,T,T,T,T,T,T,T,F,F,F] rfl rfl (take_ofW HT_.out HW_.out (by kernel_rfl)) (fun _ _ _ h => h) (Or.inl ⟨by rfl, ?_⟩) hHeld ?_ ?_
            rotate_left
            ·rintro w' ⟨s0, s1⟩
             go_simp
             with_reducible rfl
            rotate_left
            ·simp only [Act.put, sA, sB, sC, i64_w, i32_w]
             rfl
            refine pU 8 (some 106) #[T,T,T,T,T,T,T,T,T,F,F] HT_ ?_
            refine pU 9 (some 107) #[T,T,T,T,T,T,T,T,T,T,F] HT_ ?_
            refine last_ (i := 10) (N := none) #[T,T,T,T,T,T,T,T,T,T,T] rfl rfl (one_of HT_.out (by kernel_rfl)) (by decide) (fun K hK => ?_)
            refine skip_ (w1 := ?_) (by rfl) rfl ?_ ?_
            rotate_left
            ·go_simp
             rfl
            refine hK.out _ _ ?_
            clear hK K
            refine done_ (done_of HT_.out (by kernel_rfl)) ?_
            try go_wp2
            (try simp only [← hl4_3, ← hl5_3])
            go_roundg k3
            case measure => have := HK1.out; have := HK2.out; have := HK3.out; omega
            case rel => exact ⟨(y323), (y331), (y324), (wrap64 (x59_3 + 1)), (by first | rfl | (simp; done) | (simp [*]; done)), H', ⟨by have := HK1.out; have := HK2.out; have := HK3.out; omega⟩, ⟨by (try simp only [hl4_1]); (try simp only [hl4_2]); (try simp only [hl5_2]); (try simp only [hl4_3]); (try simp only [hl5_3]); (with_reducible repeat (first | apply rA | apply rN | apply rD)); exact Kd.R_mono (Kd.R_far (p := ⟨go23, (t320 : Int).toNat, none⟩) (Kd.R_mono HO_4.out (fun k_ hk => (⟨hk, fun e_ => hk.1 (by rw [e_]; rfl)⟩ : _ ∧ k_ ≠ go23))) (fun _ hk => hk.2) (.int .i64 (wrap64 ((rd x5_3 t320) + (rd x5_3 t312))))) (fun _ hk => ⟨hk.1.1, hk.1.2⟩)⟩, ⟨by (try simp only [hl4_1]); (try simp only [hl4_2]); (try simp only [hl5_2]); (try simp only [hl4_3]); (try simp only [hl5_3]); (with_reducible repeat (first | apply rA | apply rN | apply rD)); exact Kd.R_mono HQ61.out (fun _ hk => ⟨hk.2, hk.1⟩)⟩, ⟨by (try simp only [hl4_1]); (try simp only [hl4_2]); (try simp only [hl5_2]); (try simp only [hl4_3]); (try simp only [hl5_3]); (with_reducible repeat (first | apply rA | apply rN | apply rD)); exact Kd.R_mono (Kd.R_far (p := ⟨go23, (t320 : Int).toNat, none⟩) (Kd.R_types (t := 3) HO326.out (by first | exact GG23.out | exact (Kd.R_typed HO_5.out _ rfl).choose_spec) (by decide)) (fun _ hk => hk.2) (.int .i64 (wrap64 ((rd x5_3 t320) + (rd x5_3 t312))))) (fun _ hk => trivial)⟩, ⟨by (try simp only [hl4_1]); (try simp only [hl4_2]); (try simp only [hl5_2]); (try simp only [hl4_3]); (try simp only [hl5_3]); (with_reducible repeat (first | apply rA | apply rN | apply rD)); exact Kd.R_mono (Kd.R_far (p := ⟨go23, (t320 : Int).toNat, none⟩) (Kd.R_mono HO_57.out (fun k_ hk => (⟨hk, fun e_ => hk.1 (by rw [e_]; rfl)⟩ : _ ∧ k_ ≠ go23))) (fun _ hk => hk.2) (.int .i64 (wrap64 ((rd x5_3 t320) + (rd x5_3 t312))))) (fun _ hk => ⟨hk.1.2, hk.1.1⟩)⟩, ⟨by repeat first | exact HB.out | apply bA | apply bN | apply bD | refine bS ?_ GB23.out⟩⟩
           ·have c51b0 : ((rd y323 t320) == (wrap64 ((rd y323 t312) + 1))) = false := beq_eq_false_iff_ne.mpr c51
            have c51b1 : ((rd y323 t320) != (wrap64 ((rd y323 t312) + 1))) = true := bne_iff_ne.mpr c51
            have H' := aM H
            clear H; have p317 : 0 ≤ (x59_3 : Int) := of_decide_eq_true (by first | (with_reducible assumption) | assumption); have q317 : x59_3 < (t314.length : Int) := of_decide_eq_true (by first | (with_reducible assumption) | assumption); obtain ⟨ad317, e317, hx317_0⟩ := Kd.at_int (Kd.R_reads' HO_57.out).2.2 x59_3 p317 q317; cases e317; replace p317 := eq_true p317; replace q317 := eq_true q317
            obtain ⟨Ao62, co62, eo62⟩ := Kd.R_slice HO_8.out
            subst eo62
            obtain ⟨ad318, e318, hx318_0, p318, q318⟩ := aZ (Kd.at_string (Kd.R_reads' HO_8.out).2.2 x9_2); cases e318
            try go_wp2_with (first | ((with_reducible refine gC 51 rfl ?_); refine gL (some 68) Tryd.func51 #[.string (rdOf ByteArray.empty x8_3 x9_2), .int .i64 (rd t314 x59_3)] ?_; (with_reducible refine (spec_twMake.calls (rdOf ByteArray.empty x8_3 x9_2) (rd t314 x59_3) t319 _ A42.out).mono ?_); rintro e w' ⟨rfl, ⟨nd, rfl⟩⟩; refine ⟨_, rfl, ?_⟩; (try (rw [drewN_self wr]; generalize hq_ : World.drewN wr _ = wr; replace HO_4 := dR hq_ HO_4; replace HO_5 := dR hq_ HO_5; replace HO_8 := dR hq_ HO_8; replace HO_57 := dR hq_ HO_57; replace HB := dB hq_ HB; clear hq_))) | ((with_reducible refine gC 39 rfl ?_); refine gL (some 70) Tryd.func39 #[.string t319] ?_; (with_reducible refine (spec_riNumber.calls k3 t319 t320 _ A43.out).mono ?_); rintro e w' ⟨rfl, ⟨nd, rfl⟩⟩; refine ⟨_, rfl, ?_⟩; (try (rw [drewN_self wr]; generalize hq_ : World.drewN wr _ = wr; replace HO_4 := dR hq_ HO_4; replace HO_5 := dR hq_ HO_5; replace HO_8 := dR hq_ HO_8; replace HO_57 := dR hq_ HO_57; replace HB := dB hq_ HB; clear hq_)); obtain ⟨hx321_0, p321, q321⟩ := aY (Kd.at_int (Kd.R_reads' HO_4.out).2.2 t320); obtain ⟨hx322_0, p322, q322⟩ := aY (Kd.at_int (Kd.R_reads' HO_4.out).2.2 t312); obtain ⟨hx49_0, hf49_0, p49, q49⟩ := aC (Kd.R_celln 0 HO_4.out (t320 : Int)); obtain ⟨hy63_, hz63_⟩ := Kd.R_celln 0 HO_4.out (t320 : Int) (oD) (oD); have HP63 := Kd.R_putg HO_4.out (t320 : Int) (wrap64 ((rd x4_3 t312) + 1))) | ((with_reducible refine gate_store (t := 3) (p := 83) rfl ?_); refine store_event (t := 3) (p := 83) (v := ?vo_w64) (w1 := (wr.setCell ⟨go21, (t320 : Int).toNat, none⟩ (.int .i64 (wrap64 ((rd x4_3 t312) + 1))))) ?hg ?ho ?hn ?hr ?_; (case ho => rfl); (case hg => rfl); (case hn => rfl); (case hr => go_simp); intro w64 hw; have hg : wr.grownBy w64 (some go21) := (by rw [hw]; exact HP63.2); have hp_ : Kd.R (Kd.int .i64) 3 w64 w.heap.size (fun k_ => some k_ ≠ (.slice (some ⟨go23, 0, none⟩) x5_3.length co23 : Value).ownBlock ∧ some k_ ≠ (.slice (some ad317) t314.length co36 : Value).ownBlock) (.slice (some ⟨go21, 0, none⟩) x4_3.length co11) y323 := (by rw [hw, Ny323.out]; exact HP63.1); clear HP63; replace HO_5 := aM (Kd.R_after (v := (.slice (some ⟨go21, 0, none⟩) x4_3.length co11)) (v1 := (.slice (some ⟨go21, 0, none⟩) x4_3.length co11)) (ok := (fun k_ => some k_ ≠ (.slice (some ad317) t314.length co36 : Value).ownBlock)) (Kd.R_mono HO_5.out (fun _ hk => ⟨hk.2, hk.1⟩)) hg (.inl rfl)); replace HO_8 := aM (Kd.R_over' (v := (.slice (some ⟨go21, 0, none⟩) x4_3.length co11)) HO_8.out (Kd.R_typed HO_4.out) (by decide) hg); replace HO_4 := aM (hp_); replace HO_57 := aM (Kd.R_after (v := (.slice (some ⟨go21, 0, none⟩) x4_3.length co11)) (v1 := (.slice (some ⟨go21, 0, none⟩) x4_3.length co11)) (ok := (fun k_ => some k_ ≠ (.slice (some ⟨go23, 0, none⟩) x5_3.length co23 : Value).ownBlock)) (Kd.R_mono HO_57.out (fun _ hk => ⟨hk.2, hk.1⟩)) hg (.inl rfl)); replace HB := aM ((by rw [hw]; exact below_set (HB.out) GB21.out : Below w.heap.size w w64)); clear hg hw hp_) | ((with_reducible refine gate_builtin (b := .append) (xs := #[.tmp 84, .tmp 86]) rfl ?_); at_builtin; refine Kd.R_append Kd.string (w0 := w) w.heap.size rfl (.tmp 84) (.tmp 86) 44 9 (.string ⟨#[]⟩) 16 rfl Tryd.underlying44 info9 rfl (by decide) (by omega) (.slice (some ad318) x8_3.length co62) x8_3 t319 [.string t319] (fun _ => True) (fun _ => False) rfl rfl ?aP (fun _ hk => hk.elim) ?aF ?aO ?aB ?aS ?aL ?_; (case aP => exact rfl); (case aB => exact HB.out); (case aF => exact (fun _ _ => trivial)); (case aO => exact HO_8.out); (case aS => exact (below_size HB.out)); (case aL => have := LMc50.out; omega); intro v325 w65 ho hb hg hat; rw [← Ny324.out] at ho; replace HO_4 := aM (Kd.R_over' HO_4.out (Kd.R_typed HO_8.out) (by decide) hg); replace HO_5 := aM (Kd.R_over' HO_5.out (Kd.R_typed HO_8.out) (by decide) hg); replace HO_57 := aM (Kd.R_over' HO_57.out (Kd.R_typed HO_8.out) (by decide) hg); replace HB := aM (hb); have HO326 := aM (ho); clear ho hb hg hat))
            have n0_ := aM (Kd.R_drew HO_4.out); have n1_ := aM (Kd.R_drew HO_5.out); have n2_ := aM (Kd.R_drew HO_57.out); have n3_ := aM (Kd.R_drew HO326.out); have n4_ := aM (below_drew1 HB.out); clear HO_4 HO_5 HO_57 HO326 HB; have HO_4 := n0_; have HO_5 := n1_; have HO_57 := n2_; have HO326 := n3_; have HB := n4_; clear n0_ n1_ n2_ n3_ n4_; have p327 : 0 ≤ (t320 : Int) := oD
            have q327 : t320 < (y323.length : Int) := (by have h_ : (t320 : Int) < ((x4_3.length : Int) : Int) := oD; first | (have e_ := (Kd.R_reads' HO_4.out).1; omega) | simpa only [Ny323.out, List.length_set] using h_)
            have ql327 : ((t320 : Int) < ((x4_3.length : Int) : Int)) = True := eq_true (oD)
            obtain ⟨ad327, e327, hx327_0⟩ := Kd.at_int (Kd.R_reads' HO_4.out).2.2 t320 p327 q327; obtain rfl : (⟨go21, 0, none⟩ : Addr) = ad327 := (by injection e327); (first | simp only [add_plain] at hx327_0 | simp only [add_at] at hx327_0 | simp only [Addr.add, Nat.zero_add] at hx327_0 | skip); replace p327 := eq_true p327; replace q327 := eq_true q327; have p328 : 0 ≤ (t312 : Int) := oD
            have q328 : t312 < (y323.length : Int) := (by have h_ : (t312 : Int) < ((x4_3.length : Int) : Int) := oD; first | (have e_ := (Kd.R_reads' HO_4.out).1; omega) | simpa only [Ny323.out, List.length_set] using h_)
            have ql328 : ((t312 : Int) < ((x4_3.length : Int) : Int)) = True := eq_true (oD)
            obtain ⟨ad328, e328, hx328_0⟩ := Kd.at_int (Kd.R_reads' HO_4.out).2.2 t312 p328 q328; obtain rfl : (⟨go21, 0, none⟩ : Addr) = ad328 := (by injection e328); (first | simp only [add_plain] at hx328_0 | simp only [add_at] at hx328_0 | simp only [Addr.add, Nat.zero_add] at hx328_0 | skip); replace p328 := eq_true p328; replace q328 := eq_true q328
            refine start_ (n := 10) (S := fun w' => w'.cell? ⟨go21, (t320).toNat, none⟩ = some (.int .i64 (rd y323 t320)) ∧ w'.cell? ⟨go21, (t312).toNat, none⟩ = some (.int .i64 (rd y323 t312))) (ds := []) #[F,F,F,F,F,F,F,F,F,F] (by kernel_rfl) rfl rfl ⟨hx327_0, hx328_0⟩ (fun hHeld => ?_); refine with_tabW spec_twFar.tab23 spec_twFar.bits23 (fun HT_ HW_ => ?_)
            generalize w65.drew = w66 at HO_4 HO_5 HO_57 HO326 HB hx327_0 hx328_0 hHeld ⊢
            refine pU 0 (some 88) #[T,F,F,F,F,F,F,F,F,F] HT_ ?_
            refine pU 1 (some 89) #[T,T,F,F,F,F,F,F,F,F] HT_ ?_
            refine pU 2 (some 90) #[T,T,T,F,F,F,F,F,F,F] HT_ ?_
            refine pU 4 (some 92) #[T,T,T,F,T,F,F,F,F,F] HT_ ?_
            refine pU 5 (some 93) #[T,T,T,F,T,T,F,F,F,F] HT_ ?_
            refine pU 6 (some 94) #[T,T,T,F,T,T,T,F,F,F] HT_ ?_
            refine take_ (i := 3) (N := some 91) (v := ?_) (a' := ?_) #[T,T,T,T,T,T,T,F,F,F] rfl rfl (take_ofW HT_.out HW_.out (by kernel_rfl)) (fun _ _ _ h => h) (Or.inl ⟨by rfl, ?_⟩) hHeld ?_ ?_
            rotate_left
            ·rintro w' ⟨s0, s1⟩
             go_simp
             with_reducible rfl
            rotate_left
            ·simp only [Act.put, sA, sB, sC, i64_w, i32_w]
             rfl
            refine take_ (i := 7) (N := some 95) (v := ?_) (a' := ?_) #[T,T,T,T,T,T,T,T,F,F] rfl rfl (take_ofW HT_.out HW_.out (by kernel_rfl)) (fun _ _ _ h => h) (Or.inl ⟨by rfl, ?_⟩) hHeld ?_ ?_
            rotate_left
            ·rintro w' ⟨s0, s1⟩
             go_simp
             with_reducible rfl
            rotate_left
            ·simp only [Act.put, sA, sB, sC, i64_w, i32_w]
             rfl
            refine pU 8 (some 96) #[T,T,T,T,T,T,T,T,T,F] HT_ ?_
            refine pU 9 (some 97) #[T,T,T,T,T,T,T,T,T,T] HT_ ?_
            refine done_ (done_of HT_.out (by kernel_rfl)) ?_
            try go_wp2
            (try simp only [← hl4_3, ← hl5_3])
            go_roundg k3
            case measure => have := HK1.out; have := HK2.out; have := HK3.out; omega
            case rel => exact ⟨(y323), (x5_3), (y324), (wrap64 (x59_3 + 1)), (by first | rfl | (simp; done) | (simp [*]; done)), H', ⟨by have := HK1.out; have := HK2.out; have := HK3.out; omega⟩, ⟨by (try simp only [hl4_1]); (try simp only [hl4_2]); (try simp only [hl5_2]); (try simp only [hl4_3]); (try simp only [hl5_3]); (with_reducible repeat (first | apply rA | apply rN | apply rD)); exact HO_4.out⟩, ⟨by (try simp only [hl4_1]); (try simp only [hl4_2]); (try simp only [hl5_2]); (try simp only [hl4_3]); (try simp only [hl5_3]); (with_reducible repeat (first | apply rA | apply rN | apply rD)); exact Kd.R_mono HO_5.out (fun _ hk => ⟨hk.2, hk.1⟩)⟩, ⟨by (try simp only [hl4_1]); (try simp only [hl4_2]); (try simp only [hl5_2]); (try simp only [hl4_3]); (try simp only [hl5_3]); (with_reducible repeat (first | apply rA | apply rN | apply rD)); exact HO326.out⟩, ⟨by (try simp only [hl4_1]); (try simp only [hl4_2]); (try simp only [hl5_2]); (try simp only [hl4_3]); (try simp only [hl5_3]); (with_reducible repeat (first | apply rA | apply rN | apply rD)); exact Kd.R_mono HO_57.out (fun _ hk => ⟨hk.2, hk.1⟩)⟩, ⟨bQ⟩⟩
          ·have c46b0 := decide_eq_false c46
           clear c46
           replace H := iC H; obtain ⟨c67, H⟩ := H
           have c67b0 := decide_eq_true c67
           clear c67
           replace H := iC H; obtain ⟨c68, H⟩ := H
           have c68b0 := decide_eq_true c68
           (try (have c68m0 := c68b0; simp only [hl4_1] at c68m0)); (try (have c68m1 := c68b0; simp only [hl4_2] at c68m1)); (try (have c68m2 := c68b0; simp only [hl5_2] at c68m2)); (try (have c68m3 := c68b0; simp only [hl4_3] at c68m3)); (try (have c68m4 := c68b0; simp only [hl5_3] at c68m4))
           clear c68
           replace H := iO H; obtain ⟨c69, H⟩ | ⟨c69, H⟩ := H
           ·have c69b0 : ((rd x4_3 t320) == (wrap64 ((rd x4_3 t312) + 1))) = true := beq_iff_eq.mpr c69
            have c69b1 : ((rd x4_3 t320) != (wrap64 ((rd x4_3 t312) + 1))) = false := bne_eq_false_iff_eq.mpr c69
            clear c69
            replace H := iC H; obtain ⟨c70, H⟩ := H
            have c70b0 := decide_eq_true c70
            (try (have c70m0 := c70b0; simp only [hl4_1] at c70m0)); (try (have c70m1 := c70b0; simp only [hl4_2] at c70m1)); (try (have c70m2 := c70b0; simp only [hl5_2] at c70m2)); (try (have c70m3 := c70b0; simp only [hl4_3] at c70m3)); (try (have c70m4 := c70b0; simp only [hl5_3] at c70m4))
            clear c70
            replace H := iN H; obtain ⟨c71b0, H⟩ := H
            (try (have c71m0 := c71b0; simp only [hl4_1] at c71m0)); (try (have c71m1 := c71b0; simp only [hl4_2] at c71m1)); (try (have c71m2 := c71b0; simp only [hl5_2] at c71m2)); (try (have c71m3 := c71b0; simp only [hl4_3] at c71m3)); (try (have c71m4 := c71b0; simp only [hl5_3] at c71m4))
            obtain ⟨y336, hy336⟩ : ∃ y_ : List Int, y_ = (x5_3.set (t320 : Int).toNat (wrap64 ((rd x5_3 t320) + (rd x5_3 t312)))) := ⟨_, rfl⟩
            replace H : (spec_twFar.l2 k3 x4_3 y336 x8_3 x9_2 t312 t314 (t314.length : Int) (wrap64 (x59_3 + 1))) = some (r1, r2) := by first | (rw [hy336]; with_reducible exact H) | (have H2_ := (Option.bind_some _ _).symm.trans H; rw [hy336]; with_reducible exact H2_) | (have H2_ := (Option.bind_some _ _).symm.trans H; with_reducible exact H2_) | with_reducible exact H | (rw [hy336]; exact H) | exact H
            have Ny336 := aM hy336
            clear hy336
            have H' := aM H
            clear H; have p317 : 0 ≤ (x59_3 : Int) := of_decide_eq_true (by first | (with_reducible assumption) | assumption); have q317 : x59_3 < (t314.length : Int) := of_decide_eq_true (by first | (with_reducible assumption) | assumption); obtain ⟨ad317, e317, hx317_0⟩ := Kd.at_int (Kd.R_reads' HO_57.out).2.2 x59_3 p317 q317; cases e317; replace p317 := eq_true p317; replace q317 := eq_true q317
            obtain ⟨Ao73, co73, eo73⟩ := Kd.R_slice HO_8.out
            subst eo73
            obtain ⟨ad318, e318, hx318_0, p318, q318⟩ := aZ (Kd.at_string (Kd.R_reads' HO_8.out).2.2 x9_2); cases e318
            try go_wp2_with (first | ((with_reducible refine gC 51 rfl ?_); refine gL (some 68) Tryd.func51 #[.string (rdOf ByteArray.empty x8_3 x9_2), .int .i64 (rd t314 x59_3)] ?_; (with_reducible refine (spec_twMake.calls (rdOf ByteArray.empty x8_3 x9_2) (rd t314 x59_3) t319 _ A42.out).mono ?_); rintro e w' ⟨rfl, ⟨nd, rfl⟩⟩; refine ⟨_, rfl, ?_⟩; (try (rw [drewN_self wr]; generalize hq_ : World.drewN wr _ = wr; replace HO_4 := dR hq_ HO_4; replace HO_5 := dR hq_ HO_5; replace HO_8 := dR hq_ HO_8; replace HO_57 := dR hq_ HO_57; replace HB := dB hq_ HB; clear hq_))) | ((with_reducible refine gC 39 rfl ?_); refine gL (some 70) Tryd.func39 #[.string t319] ?_; (with_reducible refine (spec_riNumber.calls k3 t319 t320 _ A43.out).mono ?_); rintro e w' ⟨rfl, ⟨nd, rfl⟩⟩; refine ⟨_, rfl, ?_⟩; (try (rw [drewN_self wr]; generalize hq_ : World.drewN wr _ = wr; replace HO_4 := dR hq_ HO_4; replace HO_5 := dR hq_ HO_5; replace HO_8 := dR hq_ HO_8; replace HO_57 := dR hq_ HO_57; replace HB := dB hq_ HB; clear hq_)); obtain ⟨hx321_0, p321, q321⟩ := aY (Kd.at_int (Kd.R_reads' HO_4.out).2.2 t320)))
            have n0_ := aM (Kd.R_drew HO_4.out); have n1_ := aM (Kd.R_drew HO_5.out); have n2_ := aM (Kd.R_drew HO_8.out); have n3_ := aM (Kd.R_drew HO_57.out); have n4_ := aM (below_drew1 HB.out); clear HO_4 HO_5 HO_8 HO_57 HB; have HO_4 := n0_; have HO_5 := n1_; have HO_8 := n2_; have HO_57 := n3_; have HB := n4_; clear n0_ n1_ n2_ n3_ n4_; obtain ⟨hx332_0, p332, q332⟩ := aY (Kd.at_int (Kd.R_reads' HO_4.out).2.2 t320); obtain ⟨hx333_0, p333, q333⟩ := aY (Kd.at_int (Kd.R_reads' HO_4.out).2.2 t312)
            refine start_ (n := 10) (S := fun w' => w'.cell? ⟨go21, (t320).toNat, none⟩ = some (.int .i64 (rd x4_3 t320)) ∧ w'.cell? ⟨go21, (t312).toNat, none⟩ = some (.int .i64 (rd x4_3 t312))) (ds := []) #[F,F,F,F,F,F,F,F,F,F] (by kernel_rfl) rfl rfl ⟨hx332_0, hx333_0⟩ (fun hHeld => ?_); refine with_tabW spec_twFar.tab23 spec_twFar.bits23 (fun HT_ HW_ => ?_)
            generalize wr.drew = w74 at HO_4 HO_5 HO_8 HO_57 HB hx332_0 hx333_0 hHeld ⊢
            refine pU 0 (some 88) #[T,F,F,F,F,F,F,F,F,F] HT_ ?_
            refine pU 1 (some 89) #[T,T,F,F,F,F,F,F,F,F] HT_ ?_
            refine pU 2 (some 90) #[T,T,T,F,F,F,F,F,F,F] HT_ ?_
            refine pU 4 (some 92) #[T,T,T,F,T,F,F,F,F,F] HT_ ?_
            refine pU 5 (some 93) #[T,T,T,F,T,T,F,F,F,F] HT_ ?_
            refine pU 6 (some 94) #[T,T,T,F,T,T,T,F,F,F] HT_ ?_
            refine take_ (i := 3) (N := some 91) (v := ?_) (a' := ?_) #[T,T,T,T,T,T,T,F,F,F] rfl rfl (take_ofW HT_.out HW_.out (by kernel_rfl)) (fun _ _ _ h => h) (Or.inl ⟨by rfl, ?_⟩) hHeld ?_ ?_
            rotate_left
            ·rintro w' ⟨s0, s1⟩
             go_simp
             with_reducible rfl
            rotate_left
            ·simp only [Act.put, sA, sB, sC, i64_w, i32_w]
             rfl
            refine take_ (i := 7) (N := some 95) (v := ?_) (a' := ?_) #[T,T,T,T,T,T,T,T,F,F] rfl rfl (take_ofW HT_.out HW_.out (by kernel_rfl)) (fun _ _ _ h => h) (Or.inl ⟨by rfl, ?_⟩) hHeld ?_ ?_
            rotate_left
            ·rintro w' ⟨s0, s1⟩
             go_simp
             with_reducible rfl
            rotate_left
            ·simp only [Act.put, sA, sB, sC, i64_w, i32_w]
             rfl
            refine pU 8 (some 96) #[T,T,T,T,T,T,T,T,T,F] HT_ ?_
            refine pU 9 (some 97) #[T,T,T,T,T,T,T,T,T,T] HT_ ?_
            refine done_ (done_of HT_.out (by kernel_rfl)) ?_
            try go_wp2
            have n0_ := aM (Kd.R_drew HO_4.out); have n1_ := aM (Kd.R_drew HO_5.out); have n2_ := aM (Kd.R_drew HO_8.out); have n3_ := aM (Kd.R_drew HO_57.out); have n4_ := aM (below_drew1 HB.out); clear HO_4 HO_5 HO_8 HO_57 HB; have HO_4 := n0_; have HO_5 := n1_; have HO_8 := n2_; have HO_57 := n3_; have HB := n4_; clear n0_ n1_ n2_ n3_ n4_; obtain ⟨hx334_0, p334, q334⟩ := aY (Kd.at_int (Kd.R_reads' HO_5.out).2.2 t320); obtain ⟨hx335_0, p335, q335⟩ := aY (Kd.at_int (Kd.R_reads' HO_5.out).2.2 t312); obtain ⟨hx72_0, hf72_0, p72, q72⟩ := aC (Kd.R_celln 0 HO_5.out (t320 : Int))
            have HP76 := Kd.R_putn HO_5.out (t320 : Int) (wrap64 ((rd x5_3 t320) + (rd x5_3 t312)))
            rw [← Ny336.out] at HP76
            have HQ76 := aM HP76
            clear HP76
            refine start_ (n := 11) (S := fun w' => w'.cell? ⟨go23, (t320).toNat, none⟩ = some (.int .i64 (rd x5_3 t320)) ∧ w'.cell? ⟨go23, (t312).toNat, none⟩ = some (.int .i64 (rd x5_3 t312))) (ds := [10]) #[F,F,F,F,F,F,F,F,F,F,F] (by kernel_rfl) rfl rfl ⟨hx334_0, hx335_0⟩ (fun hHeld => ?_); refine with_tabW spec_twFar.tab24 spec_twFar.bits24 (fun HT_ HW_ => ?_)
            generalize w74.drew = w75 at HO_4 HO_5 HO_8 HO_57 HB HQ76 hf72_0 hx334_0 hx335_0 hx72_0 hHeld ⊢
            refine pU 0 (some 98) #[T,F,F,F,F,F,F,F,F,F,F] HT_ ?_
            refine pU 1 (some 99) #[T,T,F,F,F,F,F,F,F,F,F] HT_ ?_
            refine pU 2 (some 100) #[T,T,T,F,F,F,F,F,F,F,F] HT_ ?_
            refine pU 4 (some 102) #[T,T,T,F,T,F,F,F,F,F,F] HT_ ?_
            refine pU 5 (some 103) #[T,T,T,F,T,T,F,F,F,F,F] HT_ ?_
            refine pU 6 (some 104) #[T,T,T,F,T,T,T,F,F,F,F] HT_ ?_
            refine take_ (i := 3) (N := some 101) (v := ?_) (a' := ?_) #[T,T,T,T,T,T,T,F,F,F,F] rfl rfl (take_ofW HT_.out HW_.out (by kernel_rfl)) (fun _ _ _ h => h) (Or.inl ⟨by rfl, ?_⟩) hHeld ?_ ?_
            rotate_left
            ·rintro w' ⟨s0, s1⟩
             go_simp
             with_reducible rfl
            rotate_left
            ·simp only [Act.put, sA, sB, sC, i64_w, i32_w]
             rfl
            refine take_ (i := 7) (N := some 105) (v := ?_) (a' := ?_) #[T,T,T,T,T,T,T,T,F,F,F] rfl rfl (take_ofW HT_.out HW_.out (by kernel_rfl)) (fun _ _ _ h => h) (Or.inl ⟨by rfl, ?_⟩) hHeld ?_ ?_
            rotate_left
            ·rintro w' ⟨s0, s1⟩
             go_simp
             with_reducible rfl
            rotate_left
            ·simp only [Act.put, sA, sB, sC, i64_w, i32_w]
             rfl
            refine pU 8 (some 106) #[T,T,T,T,T,T,T,T,T,F,F] HT_ ?_
            refine pU 9 (some 107) #[T,T,T,T,T,T,T,T,T,T,F] HT_ ?_
            refine last_ (i := 10) (N := none) #[T,T,T,T,T,T,T,T,T,T,T] rfl rfl (one_of HT_.out (by kernel_rfl)) (by decide) (fun K hK => ?_)
            refine skip_ (w1 := ?_) (by rfl) rfl ?_ ?_
            rotate_left
            ·go_simp
             rfl
            refine hK.out _ _ ?_
            clear hK K
            refine done_ (done_of HT_.out (by kernel_rfl)) ?_
            try go_wp2
            (try simp only [← hl4_3, ← hl5_3])
            go_roundg k3
            case measure => have := HK1.out; have := HK2.out; have := HK3.out; omega
            case rel => exact ⟨(x4_3), (y336), (x8_3), (wrap64 (x59_3 + 1)), (by first | rfl | (simp; done) | (simp [*]; done)), H', ⟨by have := HK1.out; have := HK2.out; have := HK3.out; omega⟩, ⟨by (try simp only [hl4_1]); (try simp only [hl4_2]); (try simp only [hl5_2]); (try simp only [hl4_3]); (try simp only [hl5_3]); (with_reducible repeat (first | apply rA | apply rN | apply rD)); exact Kd.R_mono (Kd.R_far (p := ⟨go23, (t320 : Int).toNat, none⟩) (Kd.R_mono HO_4.out (fun k_ hk => (⟨hk, fun e_ => hk.1 (by rw [e_]; rfl)⟩ : _ ∧ k_ ≠ go23))) (fun _ hk => hk.2) (.int .i64 (wrap64 ((rd x5_3 t320) + (rd x5_3 t312))))) (fun _ hk => ⟨hk.1.1, hk.1.2⟩)⟩, ⟨by (try simp only [hl4_1]); (try simp only [hl4_2]); (try simp only [hl5_2]); (try simp only [hl4_3]); (try simp only [hl5_3]); (with_reducible repeat (first | apply rA | apply rN | apply rD)); exact HQ76.out⟩, ⟨by (try simp only [hl4_1]); (try simp only [hl4_2]); (try simp only [hl5_2]); (try simp only [hl4_3]); (try simp only [hl5_3]); (with_reducible repeat (first | apply rA | apply rN | apply rD)); exact Kd.R_mono (Kd.R_far (p := ⟨go23, (t320 : Int).toNat, none⟩) (Kd.R_types (t := 3) HO_8.out (by first | exact GG23.out | exact (Kd.R_typed HO_5.out _ rfl).choose_spec) (by decide)) (fun _ hk => hk.2) (.int .i64 (wrap64 ((rd x5_3 t320) + (rd x5_3 t312))))) (fun _ hk => trivial)⟩, ⟨by (try simp only [hl4_1]); (try simp only [hl4_2]); (try simp only [hl5_2]); (try simp only [hl4_3]); (try simp only [hl5_3]); (with_reducible repeat (first | apply rA | apply rN | apply rD)); exact Kd.R_mono (Kd.R_far (p := ⟨go23, (t320 : Int).toNat, none⟩) (Kd.R_mono HO_57.out (fun k_ hk => (⟨hk, fun e_ => hk.2 (by rw [e_]; rfl)⟩ : _ ∧ k_ ≠ go23))) (fun _ hk => hk.2) (.int .i64 (wrap64 ((rd x5_3 t320) + (rd x5_3 t312))))) (fun _ hk => ⟨hk.1.1, hk.1.2⟩)⟩, ⟨by repeat first | exact HB.out | apply bA | apply bN | apply bD | refine bS ?_ GB23.out⟩⟩
           ·have c69b0 : ((rd x4_3 t320) == (wrap64 ((rd x4_3 t312) + 1))) = false := beq_eq_false_iff_ne.mpr c69
            have c69b1 : ((rd x4_3 t320) != (wrap64 ((rd x4_3 t312) + 1))) = true := bne_iff_ne.mpr c69
            have H' := aM H
            clear H; have p317 : 0 ≤ (x59_3 : Int) := of_decide_eq_true (by first | (with_reducible assumption) | assumption); have q317 : x59_3 < (t314.length : Int) := of_decide_eq_true (by first | (with_reducible assumption) | assumption); obtain ⟨ad317, e317, hx317_0⟩ := Kd.at_int (Kd.R_reads' HO_57.out).2.2 x59_3 p317 q317; cases e317; replace p317 := eq_true p317; replace q317 := eq_true q317
            obtain ⟨Ao77, co77, eo77⟩ := Kd.R_slice HO_8.out
            subst eo77
            obtain ⟨ad318, e318, hx318_0, p318, q318⟩ := aZ (Kd.at_string (Kd.R_reads' HO_8.out).2.2 x9_2); cases e318
            try go_wp2_with (first | ((with_reducible refine gC 51 rfl ?_); refine gL (some 68) Tryd.func51 #[.string (rdOf ByteArray.empty x8_3 x9_2), .int .i64 (rd t314 x59_3)] ?_; (with_reducible refine (spec_twMake.calls (rdOf ByteArray.empty x8_3 x9_2) (rd t314 x59_3) t319 _ A42.out).mono ?_); rintro e w' ⟨rfl, ⟨nd, rfl⟩⟩; refine ⟨_, rfl, ?_⟩) | ((with_reducible refine gC 39 rfl ?_); refine gL (some 70) Tryd.func39 #[.string t319] ?_; (with_reducible refine (spec_riNumber.calls k3 t319 t320 _ A43.out).mono ?_); rintro e w' ⟨rfl, ⟨nd, rfl⟩⟩; refine ⟨_, rfl, ?_⟩; obtain ⟨hx321_0, p321, q321⟩ := aY (Kd.at_int (Kd.R_reads' HO_4.out).2.2 t320)))
            (try (rw [drewN_self wr]; generalize hq_ : World.drewN wr _ = wr; replace HO_4 := dR hq_ HO_4; replace HO_5 := dR hq_ HO_5; replace HO_8 := dR hq_ HO_8; replace HO_57 := dR hq_ HO_57; replace HB := dB hq_ HB; clear hq_))
            have n0_ := aM (Kd.R_drew HO_4.out); have n1_ := aM (Kd.R_drew HO_5.out); have n2_ := aM (Kd.R_drew HO_8.out); have n3_ := aM (Kd.R_drew HO_57.out); have n4_ := aM (below_drew1 HB.out); clear HO_4 HO_5 HO_8 HO_57 HB; have HO_4 := n0_; have HO_5 := n1_; have HO_8 := n2_; have HO_57 := n3_; have HB := n4_; clear n0_ n1_ n2_ n3_ n4_; obtain ⟨hx332_0, p332, q332⟩ := aY (Kd.at_int (Kd.R_reads' HO_4.out).2.2 t320); obtain ⟨hx333_0, p333, q333⟩ := aY (Kd.at_int (Kd.R_reads' HO_4.out).2.2 t312)
            refine start_ (n := 10) (S := fun w' => w'.cell? ⟨go21, (t320).toNat, none⟩ = some (.int .i64 (rd x4_3 t320)) ∧ w'.cell? ⟨go21, (t312).toNat, none⟩ = some (.int .i64 (rd x4_3 t312))) (ds := []) #[F,F,F,F,F,F,F,F,F,F] (by kernel_rfl) rfl rfl ⟨hx332_0, hx333_0⟩ (fun hHeld => ?_); refine with_tabW spec_twFar.tab23 spec_twFar.bits23 (fun HT_ HW_ => ?_)
            generalize wr.drew = w78 at HO_4 HO_5 HO_8 HO_57 HB hx332_0 hx333_0 hHeld ⊢
            refine pU 0 (some 88) #[T,F,F,F,F,F,F,F,F,F] HT_ ?_
            refine pU 1 (some 89) #[T,T,F,F,F,F,F,F,F,F] HT_ ?_
            refine pU 2 (some 90) #[T,T,T,F,F,F,F,F,F,F] HT_ ?_
            refine pU 4 (some 92) #[T,T,T,F,T,F,F,F,F,F] HT_ ?_
            refine pU 5 (some 93) #[T,T,T,F,T,T,F,F,F,F] HT_ ?_
            refine pU 6 (some 94) #[T,T,T,F,T,T,T,F,F,F] HT_ ?_
            refine take_ (i := 3) (N := some 91) (v := ?_) (a' := ?_) #[T,T,T,T,T,T,T,F,F,F] rfl rfl (take_ofW HT_.out HW_.out (by kernel_rfl)) (fun _ _ _ h => h) (Or.inl ⟨by rfl, ?_⟩) hHeld ?_ ?_
            rotate_left
            ·rintro w' ⟨s0, s1⟩
             go_simp
             with_reducible rfl
            rotate_left
            ·simp only [Act.put, sA, sB, sC, i64_w, i32_w]
             rfl
            refine take_ (i := 7) (N := some 95) (v := ?_) (a' := ?_) #[T,T,T,T,T,T,T,T,F,F] rfl rfl (take_ofW HT_.out HW_.out (by kernel_rfl)) (fun _ _ _ h => h) (Or.inl ⟨by rfl, ?_⟩) hHeld ?_ ?_
            rotate_left
            ·rintro w' ⟨s0, s1⟩
             go_simp
             with_reducible rfl
            rotate_left
            ·simp only [Act.put, sA, sB, sC, i64_w, i32_w]
             rfl
            refine pU 8 (some 96) #[T,T,T,T,T,T,T,T,T,F] HT_ ?_
            refine pU 9 (some 97) #[T,T,T,T,T,T,T,T,T,T] HT_ ?_
            refine done_ (done_of HT_.out (by kernel_rfl)) ?_
            try go_wp2
            (try simp only [← hl4_3, ← hl5_3])
            go_roundg k3
            case measure => have := HK1.out; have := HK2.out; have := HK3.out; omega
            case rel => exact ⟨(x4_3), (x5_3), (x8_3), (wrap64 (x59_3 + 1)), (by first | rfl | (simp; done) | (simp [*]; done)), H', ⟨by have := HK1.out; have := HK2.out; have := HK3.out; omega⟩, ⟨by (try simp only [hl4_1]); (try simp only [hl4_2]); (try simp only [hl5_2]); (try simp only [hl4_3]); (try simp only [hl5_3]); (with_reducible repeat (first | apply rA | apply rN | apply rD)); exact HO_4.out⟩, ⟨by (try simp only [hl4_1]); (try simp only [hl4_2]); (try simp only [hl5_2]); (try simp only [hl4_3]); (try simp only [hl5_3]); (with_reducible repeat (first | apply rA | apply rN | apply rD)); exact HO_5.out⟩, ⟨by (try simp only [hl4_1]); (try simp only [hl4_2]); (try simp only [hl5_2]); (try simp only [hl4_3]); (try simp only [hl5_3]); (with_reducible repeat (first | apply rA | apply rN | apply rD)); exact HO_8.out⟩, ⟨by (try simp only [hl4_1]); (try simp only [hl4_2]); (try simp only [hl5_2]); (try simp only [hl4_3]); (try simp only [hl5_3]); (with_reducible repeat (first | apply rA | apply rN | apply rD)); exact HO_57.out⟩, ⟨bQ⟩⟩
         ·have c37b0 := decide_eq_false c37
          (try (have c37m0 := c37b0; simp only [hl4_1] at c37m0)); (try (have c37m1 := c37b0; simp only [hl4_2] at c37m1)); (try (have c37m2 := c37b0; simp only [hl5_2] at c37m2)); (try (have c37m3 := c37b0; simp only [hl4_3] at c37m3)); (try (have c37m4 := c37b0; simp only [hl5_3] at c37m4))
          clear c37
          have H' := aM H
          clear H
          go_wp2
          (try simp only [← hl4_2, ← hl5_2, ← hl4_3, ← hl5_3])
          go_roundg k3
          case measure => have := HK1.out; have := HK2.out; have := HK3.out; omega
          case rel => exact ⟨(x4_3), (x5_3), (x8_3), (wrap64 (x9_2 + 1)), (by first | rfl | (simp; done) | (simp [*]; done)), H', ⟨by have := HK1.out; have := HK2.out; have := HK3.out; omega⟩, ⟨by (try simp only [hl4_1]); (try simp only [hl4_2]); (try simp only [hl5_2]); (try simp only [hl4_3]); (try simp only [hl5_3]); (with_reducible repeat (first | apply rA | apply rN | apply rD)); exact Kd.R_mono HO_4.out (fun _ hk => hk.1)⟩, ⟨by (try simp only [hl4_1]); (try simp only [hl4_2]); (try simp only [hl5_2]); (try simp only [hl4_3]); (try simp only [hl5_3]); (with_reducible repeat (first | apply rA | apply rN | apply rD)); exact Kd.R_mono HO_5.out (fun _ hk => hk.1)⟩, ⟨by (try simp only [hl4_1]); (try simp only [hl4_2]); (try simp only [hl5_2]); (try simp only [hl4_3]); (try simp only [hl5_3]); (with_reducible repeat (first | apply rA | apply rN | apply rD)); exact HO_8.out⟩, ⟨bQ⟩⟩
      ·have c30b0 := decide_eq_false c30
       (try (have c30m0 := c30b0; simp only [hl4_1] at c30m0)); (try (have c30m1 := c30b0; simp only [hl4_2] at c30m1)); (try (have c30m2 := c30b0; simp only [hl5_2] at c30m2))
       clear c30
       simp only [Option.some.injEq, Prod.mk.injEq] at H
       obtain ⟨rfl, rfl⟩ := H
       obtain ⟨Ao79, co79, eo79⟩ := Kd.R_slice HO_8.out
       subst eo79
       go_wp2
       go_ret2
       exact ⟨_, _, by first | rfl | (simp [errW_none, errW_some] <;> rfl) | (simp only [← hji2]; first | rfl | (simp [errW_none, errW_some] <;> rfl)) | (simp [*, errW_none, errW_some] <;> rfl), HO_4.out, HO_5.out, HB.out⟩
end Go.Proofs.YtppbohghongfmaaDoor.PN
