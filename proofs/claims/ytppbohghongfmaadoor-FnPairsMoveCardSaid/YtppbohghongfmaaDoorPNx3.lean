-- written by a program of this session's (wip/tools), over the kit's print
import Derived.Test.YtppbohghongfmaaDoorPNx0
import Derived.Test.YtppbohghongfmaaDoorPNx2
-- squeezed
-- squeezed twice
namespace Go.Proofs.YtppbohghongfmaaDoor.PN
open Go.RowKit Go.Proofs.YtppbohghongfmaaDoorW.PrintWords Go.Proofs.YtppbohghongfmaaDoorW.PrintLast Go.Proofs.YtppbohghongfmaaDoorW.PrintMore
attribute [local go_sem] max2_int min2_int max_two min_two max_three min_three max_four min_four   -- for this text's walks alone
set_option linter.unusedVariables false
set_option linter.unusedSimpArgs false

/-! ### impl_search: function 32 -/
mutual
def impl_search.l0 : Nat → ByteArray → List Int → List Int → Int → Int → Option (List Int × List Int × List ByteArray)
 | 0, _, _, _, _, _ => none
 | k + 1, x0, x5, x6, x24, x25 => if x25 < x24 then (if 0 ≤ x25 then (if x25 < (x5.length : Int) then (impl_search.l0 k x0 (x5.set (x25 : Int).toNat (-1)) x6 x24 (wrap64 (x25 + 1))) else (none)) else (none)) else ((impl_number.f k x0).bind fun t216 => ((impl_number.f k x0).bind fun t217 => (if 0 ≤ t216 then (if t216 < (x5.length : Int) then (if 0 ≤ t217 then (if t217 < (x6.length : Int) then (impl_search.l1 k (x5.set (t216 : Int).toNat 0) (x6.set (t217 : Int).toNat 1) (([x0] : List ByteArray)) 0) else (none)) else (none)) else (none)) else (none))))
def impl_search.l1 : Nat → List Int → List Int → List ByteArray → Int → Option (List Int × List Int × List ByteArray)
 | 0, _, _, _, _ => none
 | k + 1, x5, x6, x8, x9 => if x9 < (x8.length : Int) then (if 0 ≤ x9 then ((impl_number.f k (rdOf ByteArray.empty x8 x9)).bind fun t224 => ((impl_pairMoves.f k (rdOf ByteArray.empty x8 x9)).bind fun t226 => (impl_search.l2 k x5 x6 x8 x9 t224 t226 (t226.length : Int) 0))) else (none)) else (some (x5, x6, x8))
def impl_search.l2 : Nat → List Int → List Int → List ByteArray → Int → Int → List Int → Int → Int → Option (List Int × List Int × List ByteArray)
 | 0, _, _, _, _, _, _, _, _ => none
 | k + 1, x5, x6, x8, x9, x10, x57, x58, x59 => if x59 < x58 then (if 0 ≤ x59 then (if x59 < (x57.length : Int) then (if 0 ≤ x9 then (if x9 < (x8.length : Int) then ((impl_paired.f (rdOf ByteArray.empty x8 x9) (rd x57 x59)).bind fun t231 => ((impl_number.f k t231).bind fun t232 => (if 0 ≤ t232 then (if t232 < (x5.length : Int) then (if (rd x5 t232) < 0 then (if 0 ≤ x10 then (if x10 < (x5.length : Int) then ((some (x5.set (t232 : Int).toNat (wrap64 ((rd x5 x10) + 1)) : List Int)).bind fun y235 => (if x8.length < 8796093022208 then ((some (x8 ++ [t231] : List ByteArray)).bind fun y236 => (if (rd y235 t232) = (wrap64 ((rd y235 x10) + 1)) then (if t232 < (x6.length : Int) then (if x10 < (x6.length : Int) then (impl_search.l2 k y235 (x6.set (t232 : Int).toNat (wrap64 ((rd x6 t232) + (rd x6 x10)))) y236 x9 x10 x57 x58 (wrap64 (x59 + 1))) else (none)) else (none)) else (impl_search.l2 k y235 x6 y236 x9 x10 x57 x58 (wrap64 (x59 + 1))))) else (none))) else (none)) else (none)) else (if 0 ≤ x10 then (if x10 < (x5.length : Int) then (if (rd x5 t232) = (wrap64 ((rd x5 x10) + 1)) then (if t232 < (x6.length : Int) then (if x10 < (x6.length : Int) then (impl_search.l2 k x5 (x6.set (t232 : Int).toNat (wrap64 ((rd x6 t232) + (rd x6 x10)))) x8 x9 x10 x57 x58 (wrap64 (x59 + 1))) else (none)) else (none)) else (impl_search.l2 k x5 x6 x8 x9 x10 x57 x58 (wrap64 (x59 + 1)))) else (none)) else (none))) else (none)) else (none)))) else (none)) else (none)) else (none)) else (none)) else (impl_search.l1 k x5 x6 x8 (wrap64 (x9 + 1)))
end
def impl_search.f (k : Nat) (a0 : ByteArray) : Option (List Int × List Int × List ByteArray) := if 0 ≤ (shl .i64 1 (a0.size : Int)) then (if (shl .i64 1 (a0.size : Int) : Int).toNat ≤ 35184372088832 then ((some (List.replicate (shl .i64 1 (a0.size : Int) : Int).toNat 0 : List Int)).bind fun y209 => (impl_search.l0 k a0 y209 (List.replicate (shl .i64 1 (a0.size : Int) : Int).toNat 0) (y209.length : Int) 0)) else (none)) else (none)
theorem impl_search.mono_l : ∀ k, (∀ y0 y1 y2 y3 y4, LeO (impl_search.l0 k y0 y1 y2 y3 y4) (impl_search.l0 (k + 1) y0 y1 y2 y3 y4)) ∧ (∀ y0 y1 y2 y3, LeO (impl_search.l1 k y0 y1 y2 y3) (impl_search.l1 (k + 1) y0 y1 y2 y3)) ∧ (∀ y0 y1 y2 y3 y4 y5 y6 y7, LeO (impl_search.l2 k y0 y1 y2 y3 y4 y5 y6 y7) (impl_search.l2 (k + 1) y0 y1 y2 y3 y4 y5 y6 y7))
 | 0 => ⟨fun _ _ _ _ _ r h => by simp [impl_search.l0] at h, fun _ _ _ _ r h => by simp [impl_search.l1] at h, fun _ _ _ _ _ _ _ _ r h => by simp [impl_search.l2] at h⟩
 | k + 1 => by
  obtain ⟨ih0, ih1, ih2⟩ := impl_search.mono_l k
  refine ⟨?_, ?_, ?_⟩
  ·intro y0 y1 y2 y3 y4
   unfold impl_search.l0
   with_reducible repeat' first | exact ih0 _ _ _ _ _ | exact ih1 _ _ _ _ | exact ih2 _ _ _ _ _ _ _ _ | exact impl_number.mono _ _ | exact impl_pairMoves.mono _ _ | exact LeO.refl _ | exact LeO.none _ | refine LeO.ite ?_ ?_ | refine LeO.bind ?_ (fun _ => ?_)
  ·intro y0 y1 y2 y3
   unfold impl_search.l1
   with_reducible repeat' first | exact ih0 _ _ _ _ _ | exact ih1 _ _ _ _ | exact ih2 _ _ _ _ _ _ _ _ | exact impl_number.mono _ _ | exact impl_pairMoves.mono _ _ | exact LeO.refl _ | exact LeO.none _ | refine LeO.ite ?_ ?_ | refine LeO.bind ?_ (fun _ => ?_)
  ·intro y0 y1 y2 y3 y4 y5 y6 y7
   unfold impl_search.l2
   with_reducible repeat' first | exact ih0 _ _ _ _ _ | exact ih1 _ _ _ _ | exact ih2 _ _ _ _ _ _ _ _ | exact impl_number.mono _ _ | exact impl_pairMoves.mono _ _ | exact LeO.refl _ | exact LeO.none _ | refine LeO.ite ?_ ?_ | refine LeO.bind ?_ (fun _ => ?_)
theorem impl_search.mono : ∀ a0 k, LeO (impl_search.f k a0) (impl_search.f (k + 1) a0) := by
 intro a0 k
 obtain ⟨ih0, ih1, ih2⟩ := impl_search.mono_l k
 unfold impl_search.f
 with_reducible repeat' first | exact ih0 _ _ _ _ _ | exact ih1 _ _ _ _ | exact ih2 _ _ _ _ _ _ _ _ | exact impl_number.mono _ _ | exact impl_pairMoves.mono _ _ | exact LeO.refl _ | exact LeO.none _ | refine LeO.ite ?_ ?_ | refine LeO.bind ?_ (fun _ => ?_)
def impl_search.T1 : Bool × List (List Nat × List Nat) := (true, [([], []), ([0], [0]), ([1], [1]), ([2, 2], [2]), ([], []), ([4], [4]), ([5], [5]), ([6, 6], [6]), ([3, 0, 1, 2, 3], [3]), ([7, 8, 0, 1, 2, 3, 4, 5, 6, 7, 8], [7])])
def impl_search.B1 : List Nat := [0, 1, 3, 7, 0, 16, 48, 112, 15, 511]
theorem impl_search.tab1 : rtab .any (opsOf Tryd.f32 1) = impl_search.T1 := by kernel_rfl
theorem impl_search.bits1 : waitsOk impl_search.T1.2 impl_search.B1 = true := by kernel_rfl
def impl_search.T21 : Bool × List (List Nat × List Nat) := (true, [([], []), ([], []), ([0, 1], [0, 1]), ([2], [2]), ([], []), ([], []), ([4, 5], [4, 5]), ([6], [6]), ([7], [7]), ([3, 8], [3, 8])])
def impl_search.B21 : List Nat := [0, 0, 3, 7, 0, 0, 48, 112, 240, 511]
theorem impl_search.tab21 : rtab .any (opsOf Tryd.f32 21) = impl_search.T21 := by kernel_rfl
theorem impl_search.bits21 : waitsOk impl_search.T21.2 impl_search.B21 = true := by kernel_rfl
def impl_search.T22 : Bool × List (List Nat × List Nat) := (true, [([], []), ([], []), ([0, 1], [0, 1]), ([2], [2]), ([], []), ([], []), ([4, 5], [4, 5]), ([6], [6]), ([3, 7], [3, 7]), ([0, 1, 0, 1, 2, 3, 4, 5, 6, 7, 8], [0, 1]), ([9, 8, 0, 1, 2, 3, 4, 5, 6, 7, 8], [8, 9])])
def impl_search.B22 : List Nat := [0, 0, 3, 7, 0, 0, 48, 112, 255, 511, 1023]
theorem impl_search.tab22 : rtab .any (opsOf Tryd.f32 22) = impl_search.T22 := by kernel_rfl
theorem impl_search.bits22 : waitsOk impl_search.T22.2 impl_search.B22 = true := by kernel_rfl
set_option maxHeartbeats 8000000 in
set_option maxRecDepth 100000 in
theorem impl_search.calls (k : Nat) (a0 : ByteArray) (r1 : List Int) (r2 : List Int) (r3 : List ByteArray) (w : World) (h : impl_search.f k a0 = some (r1, r2, r3)) :
  Calls Tryd.prog 32 #[.string a0] w fun e w' => ∃ v0_ v1_ v2_ : Value, e = .returned (.tuple #[v0_, v1_, v2_]) ∧ Kd.R (Kd.int .i64) 3 w' w.heap.size (fun k_ => some k_ ≠ (v1_ : Value).ownBlock) v0_ r1 ∧ Kd.R (Kd.int .i64) 3 w' w.heap.size (fun k_ => some k_ ≠ (v0_ : Value).ownBlock) v1_ r2 ∧ Kd.R Kd.string 9 w' w.heap.size (fun _ => True) v2_ r3 ∧ Below w.heap.size w w' := by
 have HB := aM (Below.refl w.heap.size w)
 have H := h; clear h; unfold impl_search.f at H
 obtain ⟨ji2, hji2⟩ : ∃ j_ : Int, (shl .i64 1 (a0.size : Int)) = j_ := ⟨_, rfl⟩
 replace H : (if 0 ≤ (ji2) then (if (ji2 : Int).toNat ≤ 35184372088832 then ((some (List.replicate (ji2 : Int).toNat 0 : List Int)).bind fun y209 => (impl_search.l0 k a0 y209 (List.replicate (ji2 : Int).toNat 0) (y209.length : Int) 0)) else (none)) else (none)) = some (r1, r2, r3) := by first | (rw [hji2] at H; exact H) | (simp only [hji2] at H ⊢; exact H)
 have hji2_ : (IntKind.i64.wrap (1 * 2 ^ min (a0.size : Int).toNat 64)) = ji2 := hji2
 have hji2z : (a0.size : Int) ≤ 64 → (IntKind.i64.wrap (1 * 2 ^ (a0.size : Int).toNat)) = ji2 := shl_small hji2
 have hji2p : (IntKind.i64.wrap (1 * 2 ^ min a0.size 64)) = ji2 := hji2_
 have hji2q : (a0.size : Int) ≤ 64 → (IntKind.i64.wrap (1 * 2 ^ a0.size)) = ji2 := hji2z
 have hji2r : (IntKind.i64.wrap (2 ^ min a0.size 64)) = ji2 := by have h_ := hji2p; rw [Int.one_mul] at h_; exact h_
 have hji2s : (a0.size : Int) ≤ 64 → (IntKind.i64.wrap (2 ^ a0.size)) = ji2 := fun hle_ => by have h_ := hji2q hle_; rw [Int.one_mul] at h_; exact h_
 have hji2u : (IntKind.i64.wrap (2 ^ min (a0.size : Int).toNat 64)) = ji2 := by have h_ := hji2_; rw [Int.one_mul] at h_; exact h_
 have hji2v : (a0.size : Int) ≤ 64 → (IntKind.i64.wrap (2 ^ (a0.size : Int).toNat)) = ji2 := fun hle_ => by have h_ := hji2z hle_; rw [Int.one_mul] at h_; exact h_
 have hji2y : (wrap64 (1 * 2 ^ min (a0.size : Int).toNat 64)) = ji2 := (i64_w _).symm.trans hji2_
 have hji2x : (a0.size : Int) ≤ 64 → (wrap64 (1 * 2 ^ (a0.size : Int).toNat)) = ji2 := fun h_ => (i64_w _).symm.trans (hji2z h_)
 replace H := iC H; obtain ⟨c3, H⟩ := H
 have c3b0 := eq_true c3
 have c3b1 := decide_eq_true c3
 clear c3
 replace H := iC H; obtain ⟨c4, H⟩ := H
 have c4b0 := eq_true c4
 have c4b1 := decide_eq_true c4
 clear c4
 replace H := jY H; obtain ⟨y209, Ny209, H⟩ := H
 obtain ⟨y212, Ny212, h_⟩ := yG (α := List Int) (List.replicate (ji2 : Int).toNat 0); rw [← h_] at H; clear h_
 have H' := aM H
 clear H
 go_enter Tryd.func32, Tryd.ntmps32
 try go_wp2
 replace HB := aM (below_drew1 HB.out)
 refine start_ (n := 10) (S := fun w' => True) (ds := []) #[F,F,F,F,F,F,F,F,F,F] (by kernel_rfl) rfl rfl trivial (fun hHeld => ?_); refine with_tabW impl_search.tab1 impl_search.bits1 (fun HT_ HW_ => ?_)
 generalize w.drew = w5 at HB hHeld ⊢
 refine pU 0 (some 15) #[T,F,F,F,F,F,F,F,F,F] HT_ ?_
 refine pU 1 (some 16) #[T,T,F,F,F,F,F,F,F,F] HT_ ?_
 refine pU 2 (some 17) #[T,T,T,F,F,F,F,F,F,F] HT_ ?_
 refine pU 4 (some 19) #[T,T,T,F,T,F,F,F,F,F] HT_ ?_
 refine pU 5 (some 20) #[T,T,T,F,T,T,F,F,F,F] HT_ ?_
 refine pU 6 (some 21) #[T,T,T,F,T,T,T,F,F,F] HT_ ?_
 refine join_ (σ := Value × Value) 1 #[T,T,T,T,T,T,T,T,T,F] (fun s_ => [(18, s_.1), (22, s_.2), (5, s_.1)]) (fun s_ w' => (Kd.R (Kd.int .i64) 3 w' w.heap.size (fun k_ => some k_ ≠ (s_.2 : Value).ownBlock) s_.1 y209) ∧ (Kd.R (Kd.int .i64) 3 w' w.heap.size (fun k_ => some k_ ≠ (s_.1 : Value).ownBlock) s_.2 y212) ∧ (Below w.heap.size w w')) ?_ ?_
 rotate_left
 ·intro hCont
  refine two_ (i := 3) (j := 7) (Ni := some 18) (Nj := some 22) #[T,T,T,T,T,T,T,F,F,F] #[T,T,T,F,T,T,T,T,F,F] rfl rfl rfl rfl (two_of HT_.out (by kernel_rfl)) (by decide) (by decide) (fun K hK => ?_) (fun K hK => ?_)
  ·skip
   refine Kd.R_make_step (Kd.int .i64) _ 3 (by rfl) (N := 18) rfl 26 _ _ rfl ji2 rfl rfl Tryd.underlying26 (.int .i64 0) 8 info3 rfl (by decide) (by omega) 0 (ok := fun _ => True) (okp := fun _ => True) rfl (fun _ hk => hk) trivial (oD) (Nat.le_trans (Nat.mul_le_mul_right _ (oD : ji2.toNat ≤ 35184372088832)) (by omega)) (Below.refl _ _) (Nat.le_refl _) ?_
   intro v210 w6 ho7 hb hg_ hnew_
   clear hg_ hnew_
   rw [← Ny209.out] at ho7
   have HO211 := aM (Kd.R_lower ho7 (below_size HB.out)); replace HB := aM (below_step HB.out hb); clear hb ho7
   refine hK.out _ _ trivial (fun hHeld => ?_)
   clear hK K
   refine norm_ (a' := ?_) ?_ ?_
   rotate_left
   ·show Act.put _ (some 18) _ = _
    simp only [Act.put, sA, sB, sC, i64_w, i32_w]
    rfl
   refine pU 8 (some 5) #[T,T,T,T,T,T,T,F,T,F] HT_ ?_
   refine one_ (i := 7) (N := some 22) #[T,T,T,T,T,T,T,T,T,F] rfl rfl (one_of HT_.out (by kernel_rfl)) (by decide) (fun K hK => ?_)
   refine Kd.R_make_step (Kd.int .i64) _ 3 (by rfl) (N := 22) rfl 26 _ _ rfl ji2 rfl rfl Tryd.underlying26 (.int .i64 0) 8 info3 rfl (by decide) (by omega) 0 (ok := fun _ => True) (okp := fun _ => True) rfl (fun _ hk => hk) trivial (oD) (Nat.le_trans (Nat.mul_le_mul_right _ (oD : ji2.toNat ≤ 35184372088832)) (by omega)) (Below.refl _ _) (Nat.le_refl _) ?_
   intro v213 w8 ho9 hb hg_ hnew_
   clear hg_ hnew_
   rw [← Ny212.out] at ho9
   have n0_ := aM (Kd.R_elder' HO211.out (Kd.R_base ho9) hb); have n1_ := aM (Kd.R_lower (Kd.R_new' ho9 (Kd.R_lt HO211.out)) (below_size HB.out)); have n2_ := aM (below_step HB.out hb); clear HO211 HB; have HO211 := n0_; have HO214 := n1_; have HB := n2_; clear n0_ n1_ n2_; clear hb ho9
   refine hK.out _ _ trivial (fun hHeld => ?_)
   clear hK K
   refine norm_ (a' := ?_) ?_ ?_
   rotate_left
   ·show Act.put _ (some 22) _ = _
    simp only [Act.put, sA, sB, sC, i64_w, i32_w]
    rfl
   exact norm_ (by simp only [putAll, Act.put, sA, sB, sC]) (hCont (v210, v213) _ ⟨(Kd.R_mono HO211.out (fun _ hk => hk.2)), (Kd.R_mono HO214.out (fun _ hk => hk.2)), HB.out⟩)
  ·skip
   refine Kd.R_make_step (Kd.int .i64) _ 3 (by rfl) (N := 22) rfl 26 _ _ rfl ji2 rfl rfl Tryd.underlying26 (.int .i64 0) 8 info3 rfl (by decide) (by omega) 0 (ok := fun _ => True) (okp := fun _ => True) rfl (fun _ hk => hk) trivial (oD) (Nat.le_trans (Nat.mul_le_mul_right _ (oD : ji2.toNat ≤ 35184372088832)) (by omega)) (Below.refl _ _) (Nat.le_refl _) ?_
   intro v213 w6 ho7 hb hg_ hnew_
   clear hg_ hnew_
   rw [← Ny212.out] at ho7
   have HO214 := aM (Kd.R_lower ho7 (below_size HB.out)); replace HB := aM (below_step HB.out hb); clear hb ho7
   refine hK.out _ _ trivial (fun hHeld => ?_)
   clear hK K
   refine norm_ (a' := ?_) ?_ ?_
   rotate_left
   ·show Act.put _ (some 22) _ = _
    simp only [Act.put, sA, sB, sC, i64_w, i32_w]
    rfl
   refine one_ (i := 3) (N := some 18) #[T,T,T,T,T,T,T,T,F,F] rfl rfl (one_of HT_.out (by kernel_rfl)) (by decide) (fun K hK => ?_)
   refine Kd.R_make_step (Kd.int .i64) _ 3 (by rfl) (N := 18) rfl 26 _ _ rfl ji2 rfl rfl Tryd.underlying26 (.int .i64 0) 8 info3 rfl (by decide) (by omega) 0 (ok := fun _ => True) (okp := fun _ => True) rfl (fun _ hk => hk) trivial (oD) (Nat.le_trans (Nat.mul_le_mul_right _ (oD : ji2.toNat ≤ 35184372088832)) (by omega)) (Below.refl _ _) (Nat.le_refl _) ?_
   intro v210 w8 ho9 hb hg_ hnew_
   clear hg_ hnew_
   rw [← Ny209.out] at ho9
   have n0_ := aM (Kd.R_elder' HO214.out (Kd.R_base ho9) hb); have n1_ := aM (Kd.R_lower (Kd.R_new' ho9 (Kd.R_lt HO214.out)) (below_size HB.out)); have n2_ := aM (below_step HB.out hb); clear HO214 HB; have HO214 := n0_; have HO211 := n1_; have HB := n2_; clear n0_ n1_ n2_; clear hb ho9
   refine hK.out _ _ trivial (fun hHeld => ?_)
   clear hK K
   refine norm_ (a' := ?_) ?_ ?_
   rotate_left
   ·show Act.put _ (some 18) _ = _
    simp only [Act.put, sA, sB, sC, i64_w, i32_w]
    rfl
   refine pU 8 (some 5) #[T,T,T,T,T,T,T,T,T,F] HT_ ?_
   exact norm_ (by simp only [putAll, Act.put, sA, sB, sC]) (hCont (v210, v213) _ ⟨(Kd.R_mono HO211.out (fun _ hk => hk.2)), (Kd.R_mono HO214.out (fun _ hk => hk.2)), HB.out⟩)
 rintro ⟨v210, v213⟩ w10 ⟨h0_, h1_, h2_⟩
 have n0_ : Aside0 (Kd.R (Kd.int .i64) 3 w10 w.heap.size (fun k_ => some k_ ≠ (v213 : Value).ownBlock) v210 y209) := ⟨h0_⟩; have n1_ : Aside0 (Kd.R (Kd.int .i64) 3 w10 w.heap.size (fun k_ => some k_ ≠ (v210 : Value).ownBlock) v213 y212) := ⟨h1_⟩; have n2_ : Aside0 (Below w.heap.size w w10) := ⟨h2_⟩; clear HB; clear h0_ h1_ h2_; have HO211 := n0_; have HO214 := n1_; have HB := n2_; clear n0_ n1_ n2_
 have hHeld := trivial
 refine norm_ (a' := ?_) ?_ ?_
 rotate_left
 ·simp only [putAll, Act.put, sA, sB, sC]
  rfl
 refine pU 9 (some 6) #[T,T,T,T,T,T,T,T,T,T] HT_ ?_
 refine done_ (done_of HT_.out (by kernel_rfl)) ?_
 obtain ⟨Ao11, co11, eo11⟩ := Kd.R_slice HO211.out
 subst eo11
 try go_wp2
 go_loopg [25] k (fun kq v25 w' => ∃ (x5_1 : List Int) (x25_1 : Int), v25 = .int .i64 x25_1 ∧ Aside0 (impl_search.l0 kq a0 x5_1 y212 (y209.length : Int) x25_1 = some (r1, r2, r3)) ∧ Aside0 (kq ≤ k) ∧ Aside0 (Kd.R (Kd.int .i64) 3 w' w.heap.size (fun k_ => some k_ ≠ (v213 : Value).ownBlock) (.slice Ao11 y209.length co11) x5_1) ∧ Aside0 (Kd.R (Kd.int .i64) 3 w' w.heap.size (fun k_ => some k_ ≠ ((.slice Ao11 y209.length co11) : Value).ownBlock) v213 y212) ∧ Aside0 (Below w.heap.size w w'))
 case atStart => exact ⟨(y209), (0), rfl, H', ⟨Nat.le_refl _⟩, HO211, HO214, HB⟩
 case round =>
  clear H'
  clear c3b0 c3b1 c4b0 c4b1
  obtain ⟨x5_1, x25_1, rfl, HA, HK1, HO_5, HO_6, HB⟩ := hrel
  have hl5_1 := (Kd.R_reads' HO_5.out).1
  rw [hl5_1] at HO_5
  (try simp only [hl5_1])
  (try simp only [hl5_1] at HO_6)
  cases gk with
  | zero => exact absurd HA.out (by simp [impl_search.l0])
  | succ k1 =>
   have H := HA.out
   clear HA
   simp only [impl_search.l0] at H
   replace H := iO H; obtain ⟨c12, H⟩ | ⟨c12, H⟩ := H
   ·have c12b0 := decide_eq_true c12
    (try (have c12m0 := c12b0; simp only [hl5_1] at c12m0))
    clear c12
    replace H := iC H; obtain ⟨c13, H⟩ := H
    have c13b0 := decide_eq_true c13
    clear c13
    replace H := iN H; obtain ⟨c14b0, H⟩ := H
    (try (have c14m0 := c14b0; simp only [hl5_1] at c14m0))
    obtain ⟨y215, Ny215, h_⟩ := yG (α := List Int) (x5_1.set (x25_1 : Int).toNat (-1)); rw [← h_] at H; clear h_
    have H' := aM H
    clear H; have p15 : 0 ≤ (x25_1 : Int) := of_decide_eq_true (by first | (with_reducible assumption) | assumption); have q15 : (x25_1 : Int) < ((x5_1.length : Int) : Int) := of_decide_eq_true (by first | (with_reducible assumption) | assumption)
    obtain ⟨go15, co15, eo15, gb15, gl15, cl15, HG15⟩ := Kd.R_form HO_5.out (by omega)
    (first | cases eo15 | (injection eo15 with ea_ en_ ec_; (first | subst ea_ | (injection ea_ with ea_; subst ea_)); subst ec_; clear en_))
    have GB15 := aM gb15
    have GG15 := aM HG15
    clear gb15 gl15 HG15; obtain ⟨hx15_0, hf15_0⟩ := Kd.R_celln 0 HO_5.out (x25_1 : Int) p15 q15; replace p15 := eq_true p15; replace q15 := eq_true q15
    have HP16 := Kd.R_putg HO_5.out (x25_1 : Int) (-1)
    go_wp2_with (first | ((with_reducible refine gate_store (t := 3) (p := 30) rfl ?_); refine store_event (t := 3) (p := 30) (v := ?vo_w17) (w1 := (wr.setCell ⟨go15, (x25_1 : Int).toNat, none⟩ (.int .i64 (-1)))) ?hg ?ho ?hn ?hr ?_; (case ho => rfl); (case hg => rfl); (case hn => rfl); (case hr => first | (go_simp; done) | (go_simp; rfl)); intro w17 hw; have hg : wr.grownBy w17 (some go15) := (by rw [hw]; exact HP16.2); have hp_ : Kd.R (Kd.int .i64) 3 w17 w.heap.size (fun k_ => some k_ ≠ (v213 : Value).ownBlock) (.slice (some ⟨go15, 0, none⟩) x5_1.length co11) y215 := (by rw [hw, Ny215.out]; exact HP16.1); clear HP16; have n0_ := aM (hp_); have n1_ := aM (Kd.R_after (v := (.slice (some ⟨go15, 0, none⟩) x5_1.length co11)) (v1 := (.slice (some ⟨go15, 0, none⟩) x5_1.length co11)) (ok := (fun _ => True)) (by (with_reducible repeat (first | apply rA | apply rN | apply rD)); exact Kd.R_mono HO_6.out (fun _ hk => ⟨trivial, hk⟩)) hg (.inl rfl)); have n2_ := aM ((by rw [hw]; exact below_set (HB.out) GB15.out : Below w.heap.size w w17)); clear HO_5; clear HO_6; clear HB; have HO_5 := n0_; have HO_6 := n1_; have HB := n2_; clear n0_ n1_ n2_; clear hg hw hp_))
    (try simp only [← hl5_1])
    go_roundg k1
    case measure => have := HK1.out; omega
    case rel => exact ⟨(y215), (wrap64 (x25_1 + 1)), (by first | rfl | (simp; done) | (simp [*]; done)), H', ⟨by have := HK1.out; omega⟩, ⟨by (try simp only [hl5_1]); (with_reducible repeat (first | apply rA | apply rN | apply rD)); exact HO_5.out⟩, ⟨by (try simp only [hl5_1]); (with_reducible repeat (first | apply rA | apply rN | apply rD)); exact Kd.R_mono HO_6.out (fun _ hk => hk.2)⟩, ⟨by repeat (first | (with_reducible first | exact HB.out | apply bA | apply bN | apply bD) | exact HB.out)⟩⟩
   ·have c12b0 := decide_eq_false c12
    (try (have c12m0 := c12b0; simp only [hl5_1] at c12m0))
    clear c12
    replace H := jS H; obtain ⟨t216, A18, H⟩ := H
    replace H := jS H; obtain ⟨t217, A19, H⟩ := H
    replace H := iC H; obtain ⟨c20, H⟩ := H
    have c20b0 := decide_eq_true c20
    clear c20
    replace H := iC H; obtain ⟨c21, H⟩ := H
    have c21b0 := decide_eq_true c21
    (try (have c21m0 := c21b0; simp only [hl5_1] at c21m0))
    clear c21
    obtain ⟨y218, Ny218, h_⟩ := yG (α := List Int) (x5_1.set (t216 : Int).toNat 0); rw [← h_] at H; clear h_
    replace H := iC H; obtain ⟨c23, H⟩ := H
    have c23b0 := decide_eq_true c23
    clear c23
    replace H := iC H; obtain ⟨c24, H⟩ := H
    have c24b0 := decide_eq_true c24
    (try (have c24m0 := c24b0; simp only [hl5_1] at c24m0))
    clear c24
    obtain ⟨y219, Ny219, h_⟩ := yG (α := List Int) (y212.set (t217 : Int).toNat 1); rw [← h_] at H; clear h_
    obtain ⟨y220, Ny220, h_⟩ := yG (α := List ByteArray) (([a0] : List ByteArray)); rw [← h_] at H; clear h_
    have H' := aM H
    clear H
    go_wp2_with (first | ((with_reducible refine gate_callee (f := 33) rfl ?_); refine goesL_ (some 34) rfl rfl Tryd.func33 (by kernel_rfl) rfl #[.string a0] rfl (by (try simp only [List.map_toArray, List.map_cons, List.map_nil]); first | done | rfl | (simp only [List.length_drop, List.length_take]; rfl)) ?_; (with_reducible refine (impl_number.calls k1 a0 t216 _ A18.out).mono ?_); rintro e w' ⟨rfl, ⟨nd, rfl⟩⟩; refine ⟨_, rfl, ?_⟩; (try (rw [drewN_self wr]; generalize hq_ : World.drewN wr _ = wr; have n0_ : Aside0 (Kd.R (Kd.int .i64) 3 wr w.heap.size (fun k_ => some k_ ≠ (v213 : Value).ownBlock) (.slice Ao11 x5_1.length co11) x5_1) := ⟨by rw [← hq_]; exact (by (with_reducible repeat (first | apply rA | apply rN | apply rD)); exact HO_5.out)⟩; have n1_ : Aside0 (Kd.R (Kd.int .i64) 3 wr w.heap.size (fun k_ => some k_ ≠ (.slice Ao11 x5_1.length co11 : Value).ownBlock) v213 y212) := ⟨by rw [← hq_]; exact (by (with_reducible repeat (first | apply rA | apply rN | apply rD)); exact HO_6.out)⟩; have n2_ : Aside0 (Below w.heap.size w wr) := ⟨by rw [← hq_]; exact (by repeat (first | (with_reducible first | exact HB.out | apply bA | apply bN | apply bD) | exact HB.out))⟩; clear HO_5 HO_6 HB hq_; have HO_5 := n0_; have HO_6 := n1_; have HB := n2_; clear n0_ n1_ n2_))) | ((with_reducible refine gate_callee (f := 33) rfl ?_); refine goesL_ (some 37) rfl rfl Tryd.func33 (by kernel_rfl) rfl #[.string a0] rfl (by (try simp only [List.map_toArray, List.map_cons, List.map_nil]); first | done | rfl | (simp only [List.length_drop, List.length_take]; rfl)) ?_; (with_reducible refine (impl_number.calls k1 a0 t217 _ A19.out).mono ?_); rintro e w' ⟨rfl, ⟨nd, rfl⟩⟩; refine ⟨_, rfl, ?_⟩; (try (rw [drewN_self wr]; generalize hq_ : World.drewN wr _ = wr; have n0_ : Aside0 (Kd.R (Kd.int .i64) 3 wr w.heap.size (fun k_ => some k_ ≠ (v213 : Value).ownBlock) (.slice Ao11 x5_1.length co11) x5_1) := ⟨by rw [← hq_]; exact (by (with_reducible repeat (first | apply rA | apply rN | apply rD)); exact HO_5.out)⟩; have n1_ : Aside0 (Kd.R (Kd.int .i64) 3 wr w.heap.size (fun k_ => some k_ ≠ (.slice Ao11 x5_1.length co11 : Value).ownBlock) v213 y212) := ⟨by rw [← hq_]; exact (by (with_reducible repeat (first | apply rA | apply rN | apply rD)); exact HO_6.out)⟩; have n2_ : Aside0 (Below w.heap.size w wr) := ⟨by rw [← hq_]; exact (by repeat (first | (with_reducible first | exact HB.out | apply bA | apply bN | apply bD) | exact HB.out))⟩; clear HO_5 HO_6 HB hq_; have HO_5 := n0_; have HO_6 := n1_; have HB := n2_; clear n0_ n1_ n2_)); have p22 : 0 ≤ (t216 : Int) := of_decide_eq_true (by first | (with_reducible assumption) | assumption); have q22 : (t216 : Int) < ((x5_1.length : Int) : Int) := of_decide_eq_true (by first | (with_reducible assumption) | assumption); obtain ⟨go22, co22, eo22, gb22, gl22, cl22, HG22⟩ := Kd.R_form HO_5.out (by omega); (first | cases eo22 | (injection eo22 with ea_ en_ ec_; (first | subst ea_ | (injection ea_ with ea_; subst ea_)); subst ec_; clear en_)); have GB22 := aM gb22; have GG22 := aM HG22; clear gb22 gl22 HG22; obtain ⟨hx22_0, hf22_0⟩ := Kd.R_celln 0 HO_5.out (t216 : Int) p22 q22; replace p22 := eq_true p22; replace q22 := eq_true q22; obtain ⟨hy26_, hz26_⟩ := Kd.R_celln 0 HO_5.out (t216 : Int) (of_decide_eq_true (by first | (with_reducible assumption) | assumption)) (of_decide_eq_true (by first | (with_reducible assumption) | assumption)); have HP26 := Kd.R_putg HO_5.out (t216 : Int) 0) | ((with_reducible refine gate_store (t := 3) (p := 38) rfl ?_); refine store_event (t := 3) (p := 38) (v := ?vo_w27) (w1 := (wr.setCell ⟨go22, (t216 : Int).toNat, none⟩ (.int .i64 0))) ?hg ?ho ?hn ?hr ?_; (case ho => rfl); (case hg => rfl); (case hn => rfl); (case hr => first | (go_simp; done) | (go_simp; rfl)); intro w27 hw; have hg : wr.grownBy w27 (some go22) := (by rw [hw]; exact HP26.2); have hp_ : Kd.R (Kd.int .i64) 3 w27 w.heap.size (fun k_ => some k_ ≠ (v213 : Value).ownBlock) (.slice (some ⟨go22, 0, none⟩) x5_1.length co11) y218 := (by rw [hw, Ny218.out]; exact HP26.1); clear HP26; have n0_ := aM (hp_); have n1_ := aM (Kd.R_after (v := (.slice (some ⟨go22, 0, none⟩) x5_1.length co11)) (v1 := (.slice (some ⟨go22, 0, none⟩) x5_1.length co11)) (ok := (fun _ => True)) (by (with_reducible repeat (first | apply rA | apply rN | apply rD)); exact Kd.R_mono HO_6.out (fun _ hk => ⟨trivial, hk⟩)) hg (.inl rfl)); have n2_ := aM ((by rw [hw]; exact below_set (HB.out) GB22.out : Below w.heap.size w w27)); clear HO_5; clear HO_6; clear HB; have HO_5 := n0_; have HO_6 := n1_; have HB := n2_; clear n0_ n1_ n2_; clear hg hw hp_; have p25 : 0 ≤ (t217 : Int) := of_decide_eq_true (by first | (with_reducible assumption) | assumption); have q25 : (t217 : Int) < ((y212.length : Int) : Int) := of_decide_eq_true (by first | (with_reducible assumption) | assumption); obtain ⟨go25, co25, eo25, gb25, gl25, cl25, HG25⟩ := Kd.R_form HO_6.out (by omega); (first | cases eo25 | (injection eo25 with ea_ en_ ec_; (first | subst ea_ | (injection ea_ with ea_; subst ea_)); subst ec_; clear en_)); have GB25 := aM gb25; have GG25 := aM HG25; clear gb25 gl25 HG25; obtain ⟨hx25_0, hf25_0⟩ := Kd.R_celln 0 HO_6.out (t217 : Int) p25 q25; replace p25 := eq_true p25; replace q25 := eq_true q25; have n_ := aM (Kd.R_mono (ok' := (fun k_ => some k_ ≠ (.slice (some ⟨go22, 0, none⟩) x5_1.length co11 : Value).ownBlock)) HO_6.out (fun k_ hk => hk.2)); clear HO_6; have HO_6 := n_; clear n_; obtain ⟨hy28_, hz28_⟩ := Kd.R_celln 0 HO_6.out (t217 : Int) (of_decide_eq_true (by first | (with_reducible assumption) | assumption)) (of_decide_eq_true (by first | (with_reducible assumption) | assumption)); have HP28 := Kd.R_putg HO_6.out (t217 : Int) 1) | ((with_reducible refine gate_store (t := 3) (p := 39) rfl ?_); refine store_event (t := 3) (p := 39) (v := ?vo_w29) (w1 := (w27.setCell ⟨go25, (t217 : Int).toNat, none⟩ (.int .i64 1))) ?hg ?ho ?hn ?hr ?_; (case ho => rfl); (case hg => rfl); (case hn => rfl); (case hr => first | (go_simp; done) | (go_simp; rfl)); intro w29 hw; have hg : w27.grownBy w29 (some go25) := (by rw [hw]; exact HP28.2); have hp_ : Kd.R (Kd.int .i64) 3 w29 w.heap.size (fun k_ => some k_ ≠ (.slice (some ⟨go22, 0, none⟩) x5_1.length co11 : Value).ownBlock) (.slice (some ⟨go25, 0, none⟩) y212.length co25) y219 := (by rw [hw, Ny219.out]; exact HP28.1); clear HP28; have n0_ := aM (Kd.R_after (v := (.slice (some ⟨go25, 0, none⟩) y212.length co25)) (v1 := (.slice (some ⟨go25, 0, none⟩) y212.length co25)) (ok := (fun _ => True)) (by (with_reducible repeat (first | apply rA | apply rN | apply rD)); exact Kd.R_mono HO_5.out (fun _ hk => ⟨trivial, hk⟩)) hg (.inl rfl)); have n1_ := aM (hp_); have n2_ := aM ((by rw [hw]; exact below_set (HB.out) GB25.out : Below w.heap.size w w29)); clear HO_5; clear HO_6; clear HB; have HO_5 := n0_; have HO_6 := n1_; have HB := n2_; clear n0_ n1_ n2_; clear hg hw hp_) | ((with_reducible refine gate_dst (N := 41) rfl ?_); refine Kd.R_lit Kd.string _ 9 ?hg (N := 41) ?hd (xs := ([a0] : List ByteArray)) (inner := [.string a0]) (ok := fun _ => True) (okp := fun _ => True) ?hr ?hp (fun _ hk => hk) trivial (Below.refl _ _) (Nat.le_refl _) (by simp) ?_; (case hd => rfl); (case hg => rfl); (case hr => first | (go_simp; done) | (go_simp; rfl)); (case hp => exact (Reps.one (show Kd.M Kd.string _ _ _ a0 [.string a0] from rfl) (Reps.none _ _))); intro v221 w30 ho31 hb hg_ hnew_; clear hg_ hnew_; (first | rw [← Ny220.out] at ho31 | (simp only [Int.reduceToNat] at ho31; rw [← Ny220.out] at ho31)); have n0_ := aM (Kd.R_below (by (with_reducible repeat (first | apply rA | apply rN | apply rD)); exact HO_5.out) hb); have n1_ := aM (Kd.R_below (by (with_reducible repeat (first | apply rA | apply rN | apply rD)); exact HO_6.out) hb); have n2_ := aM (Kd.R_lower ho31 (below_size (by repeat (first | (with_reducible first | exact HB.out | apply bA | apply bN | apply bD) | exact HB.out)))); have n3_ := aM (below_step (by repeat (first | (with_reducible first | exact HB.out | apply bA | apply bN | apply bD) | exact HB.out)) hb); clear HO_5; clear HO_6; clear HB; have HO_5 := n0_; have HO_6 := n1_; have HO222 := n2_; have HB := n3_; clear n0_ n1_ n2_ n3_; clear hb ho31))
    go_loopg [8, 9] k1 (fun kq v8 v9 w' => ∃ (x5_2 : List Int) (x6_2 : List Int) (x8_2 : List ByteArray) (x9_2 : Int), v9 = .int .i64 x9_2 ∧ Aside0 (impl_search.l1 kq x5_2 x6_2 x8_2 x9_2 = some (r1, r2, r3)) ∧ Aside0 (kq ≤ k1) ∧ Aside0 (Kd.R (Kd.int .i64) 3 w' w.heap.size (fun k_ => some k_ ≠ ((.slice (some ⟨go25, 0, none⟩) y212.length co25) : Value).ownBlock) (.slice (some ⟨go22, 0, none⟩) x5_1.length co11) x5_2) ∧ Aside0 (Kd.R (Kd.int .i64) 3 w' w.heap.size (fun k_ => some k_ ≠ ((.slice (some ⟨go22, 0, none⟩) x5_1.length co11) : Value).ownBlock) (.slice (some ⟨go25, 0, none⟩) y212.length co25) x6_2) ∧ Aside0 (Kd.R Kd.string 9 w' w.heap.size (fun _ => True) v8 x8_2) ∧ Aside0 (Below w.heap.size w w'))
    case atStart => exact ⟨(y218), (y219), (y220), (0), rfl, H', ⟨Nat.le_refl _⟩, ⟨Kd.R_mono HO_5.out (fun _ hk => hk.2)⟩, HO_6, HO222, HB⟩
    case round =>
     clear H'
     clear c12b0 c20b0 c21b0 p22 q22 c23b0 c24b0 p25 q25 hx22_0 hx25_0
     obtain ⟨x5_2, x6_2, x8_2, x9_2, rfl, HA, HK2, HO_5, HO_6, HO_8, HB⟩ := hrel
     have hl5_2 := (Kd.R_reads' HO_5.out).1
     rw [hl5_2] at HO_5
     (try simp only [hl5_2])
     (try simp only [hl5_2] at HO_6)
     (try simp only [hl5_2] at HO_8)
     have hl6_2 := (Kd.R_reads' HO_6.out).1
     rw [hl6_2] at HO_6
     (try simp only [hl6_2])
     (try simp only [hl6_2] at HO_5)
     (try simp only [hl6_2] at HO_8)
     cases gk with
     | zero => exact absurd HA.out (by simp [impl_search.l1])
     | succ k2 =>
      have H := HA.out
      clear HA
      simp only [impl_search.l1] at H
      replace H := iO H; obtain ⟨c32, H⟩ | ⟨c32, H⟩ := H
      ·have c32b0 := decide_eq_true c32
       (try (have c32m0 := c32b0; simp only [hl5_1] at c32m0)); (try (have c32m1 := c32b0; simp only [hl5_2] at c32m1)); (try (have c32m2 := c32b0; simp only [hl6_2] at c32m2))
       clear c32
       replace H := iC H; obtain ⟨c33, H⟩ := H
       have c33b0 := decide_eq_true c33
       clear c33
       replace H := jS H; obtain ⟨t224, A34, H⟩ := H
       replace H := jS H; obtain ⟨t226, A35, H⟩ := H
       have H' := aM H
       clear H
       obtain ⟨Ao36, co36, eo36⟩ := Kd.R_slice HO_8.out
       subst eo36
       obtain ⟨ad223, e223, hx223_0, p223, q223⟩ := aZ (Kd.at_string (Kd.R_reads' HO_8.out).2.2 x9_2); cases e223
       go_wp2_with (first | ((with_reducible refine gC 33 rfl ?_); refine gL (some 52) Tryd.func33 #[.string (rdOf ByteArray.empty x8_2 x9_2)] ?_; (with_reducible refine (impl_number.calls k2 (rdOf ByteArray.empty x8_2 x9_2) t224 _ A34.out).mono ?_); rintro e w' ⟨rfl, ⟨nd, rfl⟩⟩; refine ⟨_, rfl, ?_⟩; obtain ⟨ad225, e225, hx225_0, p225, q225⟩ := aZ (Kd.at_string (Kd.R_reads' HO_8.out).2.2 x9_2); cases e225) | ((with_reducible refine gC 34 rfl ?_); refine gL (some 57) Tryd.func34 #[.string (rdOf ByteArray.empty x8_2 x9_2)] ?_; (with_reducible refine (impl_pairMoves.calls k2 (rdOf ByteArray.empty x8_2 x9_2) t226 _ A35.out).mono ?_); rintro e w37 ⟨v227, rfl, ho0, hb⟩; refine ⟨_, rfl, ?_⟩; have n0_ := aM (Kd.R_elder' (rQ HO_5.out) (Kd.R_base ho0) hb); have n1_ := aM (Kd.R_elder' (rQ HO_6.out) (Kd.R_base ho0) hb); have n2_ := aM (Kd.R_below (rQ HO_8.out) hb); have n3_ := aM (Kd.R_lower (Kd.R_new' (Kd.R_new' ho0 (Kd.R_lt (rQ HO_5.out))) (Kd.R_lt (rQ HO_6.out))) (below_size bQ)); have n4_ := aM (below_step bQ hb); clear HO_5; clear HO_6; clear HO_8; clear HB; have HO_5 := n0_; have HO_6 := n1_; have HO_8 := n2_; have HO228 := n3_; have HB := n4_; clear n0_ n1_ n2_ n3_ n4_; (try clear hb); (try clear hb2); (try clear hk); (try clear hi); (try clear ho0); obtain ⟨Ao38, co38, eo38⟩ := Kd.R_slice HO228.out; subst eo38))
       go_loopg [8, 59] k2 (fun kq v8 v59 w' => ∃ (x5_3 : List Int) (x6_3 : List Int) (x8_3 : List ByteArray) (x59_3 : Int), v59 = .int .i64 x59_3 ∧ Aside0 (impl_search.l2 kq x5_3 x6_3 x8_3 x9_2 t224 t226 (t226.length : Int) x59_3 = some (r1, r2, r3)) ∧ Aside0 (kq ≤ k2) ∧ Aside0 (Kd.R (Kd.int .i64) 3 w' w.heap.size (fun k_ => some k_ ≠ ((.slice (some ⟨go25, 0, none⟩) x6_2.length co25) : Value).ownBlock ∧ some k_ ≠ ((.slice Ao38 t226.length co38) : Value).ownBlock) (.slice (some ⟨go22, 0, none⟩) x5_2.length co11) x5_3) ∧ Aside0 (Kd.R (Kd.int .i64) 3 w' w.heap.size (fun k_ => some k_ ≠ ((.slice (some ⟨go22, 0, none⟩) x5_2.length co11) : Value).ownBlock ∧ some k_ ≠ ((.slice Ao38 t226.length co38) : Value).ownBlock) (.slice (some ⟨go25, 0, none⟩) x6_2.length co25) x6_3) ∧ Aside0 (Kd.R Kd.string 9 w' w.heap.size (fun _ => True) v8 x8_3) ∧ Aside0 (Kd.R (Kd.int .i64) 3 w' w.heap.size (fun k_ => some k_ ≠ ((.slice (some ⟨go22, 0, none⟩) x5_2.length co11) : Value).ownBlock ∧ some k_ ≠ ((.slice (some ⟨go25, 0, none⟩) x6_2.length co25) : Value).ownBlock) (.slice Ao38 t226.length co38) t226) ∧ Aside0 (Below w.heap.size w w'))
       case atStart => exact ⟨(x5_2), (x6_2), (x8_2), (0), rfl, H', ⟨Nat.le_refl _⟩, HO_5, HO_6, HO_8, ⟨by (try simp only [hl5_1]); (try simp only [hl5_2]); (try simp only [hl6_2]); (with_reducible repeat (first | apply rA | apply rN | apply rD)); exact Kd.R_mono HO228.out (fun _ hk => ⟨hk.1.2, hk.2⟩)⟩, HB⟩
       case round =>
        clear H'
        clear c32b0 c33b0 hx223_0 hx225_0 p223 p225 q223 q225
        obtain ⟨x5_3, x6_3, x8_3, x59_3, rfl, HA, HK3, HO_5, HO_6, HO_8, HO_57, HB⟩ := hrel
        have hl5_3 := (Kd.R_reads' HO_5.out).1
        rw [hl5_3] at HO_5
        (try simp only [hl5_3])
        (try simp only [hl5_3] at HO_6)
        (try simp only [hl5_3] at HO_8)
        (try simp only [hl5_3] at HO_57)
        have hl6_3 := (Kd.R_reads' HO_6.out).1
        rw [hl6_3] at HO_6
        (try simp only [hl6_3])
        (try simp only [hl6_3] at HO_5)
        (try simp only [hl6_3] at HO_8)
        (try simp only [hl6_3] at HO_57)
        cases gk with
        | zero => exact absurd HA.out (by simp [impl_search.l2])
        | succ k3 =>
         have H := HA.out
         clear HA
         simp only [impl_search.l2] at H
         replace H := iO H; obtain ⟨c39, H⟩ | ⟨c39, H⟩ := H
         ·have c39b0 := decide_eq_true c39
          (try (have c39m0 := c39b0; simp only [hl5_1] at c39m0)); (try (have c39m1 := c39b0; simp only [hl5_2] at c39m1)); (try (have c39m2 := c39b0; simp only [hl6_2] at c39m2)); (try (have c39m3 := c39b0; simp only [hl5_3] at c39m3)); (try (have c39m4 := c39b0; simp only [hl6_3] at c39m4))
          clear c39
          replace H := iC H; obtain ⟨c40, H⟩ := H
          have c40b0 := decide_eq_true c40
          clear c40
          replace H := iC H; obtain ⟨c41, H⟩ := H
          have c41b0 := decide_eq_true c41
          (try (have c41m0 := c41b0; simp only [hl5_1] at c41m0)); (try (have c41m1 := c41b0; simp only [hl5_2] at c41m1)); (try (have c41m2 := c41b0; simp only [hl6_2] at c41m2)); (try (have c41m3 := c41b0; simp only [hl5_3] at c41m3)); (try (have c41m4 := c41b0; simp only [hl6_3] at c41m4))
          clear c41
          replace H := iC H; obtain ⟨c42, H⟩ := H
          have c42b0 := decide_eq_true c42
          clear c42
          replace H := iN H; obtain ⟨c43b0, H⟩ := H
          (try (have c43m0 := c43b0; simp only [hl5_1] at c43m0)); (try (have c43m1 := c43b0; simp only [hl5_2] at c43m1)); (try (have c43m2 := c43b0; simp only [hl6_2] at c43m2)); (try (have c43m3 := c43b0; simp only [hl5_3] at c43m3)); (try (have c43m4 := c43b0; simp only [hl6_3] at c43m4))
          replace H := jS H; obtain ⟨t231, A44, H⟩ := H
          replace H := jS H; obtain ⟨t232, A45, H⟩ := H
          replace H := iC H; obtain ⟨c46, H⟩ := H
          have c46b0 := decide_eq_true c46
          clear c46
          replace H := iC H; obtain ⟨c47, H⟩ := H
          have c47b0 := decide_eq_true c47
          (try (have c47m0 := c47b0; simp only [hl5_1] at c47m0)); (try (have c47m1 := c47b0; simp only [hl5_2] at c47m1)); (try (have c47m2 := c47b0; simp only [hl6_2] at c47m2)); (try (have c47m3 := c47b0; simp only [hl5_3] at c47m3)); (try (have c47m4 := c47b0; simp only [hl6_3] at c47m4))
          clear c47
          replace H := iO H; obtain ⟨c48, H⟩ | ⟨c48, H⟩ := H
          ·have c48b0 := decide_eq_true c48
           clear c48
           replace H := iC H; obtain ⟨c49, H⟩ := H
           have c49b0 := decide_eq_true c49
           clear c49
           replace H := iN H; obtain ⟨c50b0, H⟩ := H
           (try (have c50m0 := c50b0; simp only [hl5_1] at c50m0)); (try (have c50m1 := c50b0; simp only [hl5_2] at c50m1)); (try (have c50m2 := c50b0; simp only [hl6_2] at c50m2)); (try (have c50m3 := c50b0; simp only [hl5_3] at c50m3)); (try (have c50m4 := c50b0; simp only [hl6_3] at c50m4))
           replace H := jY H; obtain ⟨y235, Ny235, H⟩ := H
           replace H := iC H; obtain ⟨c52, H⟩ := H
           have LMc52 := aM c52
           clear c52
           replace H := jY H; obtain ⟨y236, Ny236, H⟩ := H
           replace H := iO H; obtain ⟨c53, H⟩ | ⟨c53, H⟩ := H
           ·have c53b0 : ((rd y235 t232) == (wrap64 ((rd y235 t224) + 1))) = true := beq_iff_eq.mpr c53
            have c53b1 : ((rd y235 t232) != (wrap64 ((rd y235 t224) + 1))) = false := bne_eq_false_iff_eq.mpr c53
            clear c53
            replace H := iC H; obtain ⟨c54, H⟩ := H
            have c54b0 := decide_eq_true c54
            (try (have c54m0 := c54b0; simp only [hl5_1] at c54m0)); (try (have c54m1 := c54b0; simp only [hl5_2] at c54m1)); (try (have c54m2 := c54b0; simp only [hl6_2] at c54m2)); (try (have c54m3 := c54b0; simp only [hl5_3] at c54m3)); (try (have c54m4 := c54b0; simp only [hl6_3] at c54m4))
            clear c54
            replace H := iN H; obtain ⟨c55b0, H⟩ := H
            (try (have c55m0 := c55b0; simp only [hl5_1] at c55m0)); (try (have c55m1 := c55b0; simp only [hl5_2] at c55m1)); (try (have c55m2 := c55b0; simp only [hl6_2] at c55m2)); (try (have c55m3 := c55b0; simp only [hl5_3] at c55m3)); (try (have c55m4 := c55b0; simp only [hl6_3] at c55m4))
            obtain ⟨y243, hy243⟩ : ∃ y_ : List Int, y_ = (x6_3.set (t232 : Int).toNat (wrap64 ((rd x6_3 t232) + (rd x6_3 t224)))) := ⟨_, rfl⟩
            replace H : (impl_search.l2 k3 y235 y243 y236 x9_2 t224 t226 (t226.length : Int) (wrap64 (x59_3 + 1))) = some (r1, r2, r3) := by first | (rw [hy243]; with_reducible exact H) | (have H2_ := (Option.bind_some _ _).symm.trans H; rw [hy243]; with_reducible exact H2_) | (have H2_ := (Option.bind_some _ _).symm.trans H; with_reducible exact H2_) | with_reducible exact H | (rw [hy243]; exact H) | exact H
            have Ny243 := aM hy243
            clear hy243
            have H' := aM H
            clear H; have p229 : 0 ≤ (x59_3 : Int) := of_decide_eq_true (by first | (with_reducible assumption) | assumption); have q229 : x59_3 < (t226.length : Int) := of_decide_eq_true (by first | (with_reducible assumption) | assumption); obtain ⟨ad229, e229, hx229_0⟩ := Kd.at_int (Kd.R_reads' HO_57.out).2.2 x59_3 p229 q229; cases e229; replace p229 := eq_true p229; replace q229 := eq_true q229
            obtain ⟨Ao57, co57, eo57⟩ := Kd.R_slice HO_8.out
            subst eo57
            obtain ⟨ad230, e230, hx230_0, p230, q230⟩ := aZ (Kd.at_string (Kd.R_reads' HO_8.out).2.2 x9_2); cases e230
            try go_wp2_with (first | ((with_reducible refine gC 35 rfl ?_); refine gL (some 68) Tryd.func35 #[.string (rdOf ByteArray.empty x8_3 x9_2), .int .i64 (rd t226 x59_3)] ?_; (with_reducible refine (impl_paired.calls (rdOf ByteArray.empty x8_3 x9_2) (rd t226 x59_3) t231 _ A44.out).mono ?_); rintro e w58 ⟨rfl, hb⟩; refine ⟨_, rfl, ?_⟩; replace HO_5 := aM (Kd.R_below HO_5.out hb); replace HO_6 := aM (Kd.R_below HO_6.out hb); replace HO_8 := aM (Kd.R_below HO_8.out hb); replace HO_57 := aM (Kd.R_below HO_57.out hb); replace HB := aM (below_step HB.out hb); (try clear hb)) | ((with_reducible refine gC 33 rfl ?_); refine gL (some 70) Tryd.func33 #[.string t231] ?_; (with_reducible refine (impl_number.calls k3 t231 t232 _ A45.out).mono ?_); rintro e w' ⟨rfl, ⟨nd, rfl⟩⟩; refine ⟨_, rfl, ?_⟩; (try (rw [drewN_self w58]; generalize hq_ : World.drewN w58 _ = w58; replace HO_5 := dR hq_ HO_5; replace HO_6 := dR hq_ HO_6; replace HO_8 := dR hq_ HO_8; replace HO_57 := dR hq_ HO_57; replace HB := dB hq_ HB; clear hq_)); obtain ⟨hx233_0, p233, q233⟩ := aY (Kd.at_int (Kd.R_reads' HO_5.out).2.2 t232); obtain ⟨hx234_0, p234, q234⟩ := aY (Kd.at_int (Kd.R_reads' HO_5.out).2.2 t224); obtain ⟨hx51_0, hf51_0, p51, q51⟩ := aC (Kd.R_celln 0 HO_5.out (t232 : Int)); obtain ⟨hy59_, hz59_⟩ := Kd.R_celln 0 HO_5.out (t232 : Int) (oD) (oD); have HP59 := Kd.R_putg HO_5.out (t232 : Int) (wrap64 ((rd x5_3 t224) + 1))) | ((with_reducible refine gate_store (t := 3) (p := 83) rfl ?_); refine store_event (t := 3) (p := 83) (v := ?vo_w60) (w1 := (w58.setCell ⟨go22, (t232 : Int).toNat, none⟩ (.int .i64 (wrap64 ((rd x5_3 t224) + 1))))) ?hg ?ho ?hn ?hr ?_; (case ho => rfl); (case hg => rfl); (case hn => rfl); (case hr => go_simp); intro w60 hw; have hg : w58.grownBy w60 (some go22) := (by rw [hw]; exact HP59.2); have hp_ : Kd.R (Kd.int .i64) 3 w60 w.heap.size (fun k_ => some k_ ≠ (.slice (some ⟨go25, 0, none⟩) x6_3.length co25 : Value).ownBlock ∧ some k_ ≠ (.slice (some ad229) t226.length co38 : Value).ownBlock) (.slice (some ⟨go22, 0, none⟩) x5_3.length co11) y235 := (by rw [hw, Ny235.out]; exact HP59.1); clear HP59; replace HO_6 := aM (Kd.R_after (v := (.slice (some ⟨go22, 0, none⟩) x5_3.length co11)) (v1 := (.slice (some ⟨go22, 0, none⟩) x5_3.length co11)) (ok := (fun k_ => some k_ ≠ (.slice (some ad229) t226.length co38 : Value).ownBlock)) (Kd.R_mono HO_6.out (fun _ hk => ⟨hk.2, hk.1⟩)) hg (.inl rfl)); replace HO_8 := aM (Kd.R_over' (v := (.slice (some ⟨go22, 0, none⟩) x5_3.length co11)) HO_8.out (Kd.R_typed HO_5.out) (by decide) hg); replace HO_5 := aM (hp_); replace HO_57 := aM (Kd.R_after (v := (.slice (some ⟨go22, 0, none⟩) x5_3.length co11)) (v1 := (.slice (some ⟨go22, 0, none⟩) x5_3.length co11)) (ok := (fun k_ => some k_ ≠ (.slice (some ⟨go25, 0, none⟩) x6_3.length co25 : Value).ownBlock)) (Kd.R_mono HO_57.out (fun _ hk => ⟨hk.2, hk.1⟩)) hg (.inl rfl)); replace HB := aM ((by rw [hw]; exact below_set (HB.out) GB22.out : Below w.heap.size w w60)); clear hg hw hp_) | ((with_reducible refine gate_builtin (b := .append) (xs := #[.tmp 84, .tmp 86]) rfl ?_); at_builtin; refine Kd.R_append Kd.string (w0 := w) w.heap.size rfl (.tmp 84) (.tmp 86) 44 9 (.string ⟨#[]⟩) 16 rfl Tryd.underlying44 info9 rfl (by decide) (by omega) (.slice (some ad230) x8_3.length co57) x8_3 t231 [.string t231] (fun _ => True) (fun _ => False) rfl rfl ?aP (fun _ hk => hk.elim) ?aF ?aO ?aB ?aS ?aL ?_; (case aP => exact rfl); (case aB => exact HB.out); (case aF => exact (fun _ _ => trivial)); (case aO => exact HO_8.out); (case aS => exact (below_size HB.out)); (case aL => have := LMc52.out; omega); intro v237 w61 ho hb hg hat; rw [← Ny236.out] at ho; replace HO_5 := aM (Kd.R_over' HO_5.out (Kd.R_typed HO_8.out) (by decide) hg); replace HO_6 := aM (Kd.R_over' HO_6.out (Kd.R_typed HO_8.out) (by decide) hg); replace HO_57 := aM (Kd.R_over' HO_57.out (Kd.R_typed HO_8.out) (by decide) hg); replace HB := aM (hb); have HO238 := aM (ho); clear ho hb hg hat))
            have n0_ := aM (Kd.R_drew HO_5.out); have n1_ := aM (Kd.R_drew HO_6.out); have n2_ := aM (Kd.R_drew HO_57.out); have n3_ := aM (Kd.R_drew HO238.out); have n4_ := aM (below_drew1 HB.out); clear HO_5 HO_6 HO_57 HO238 HB; have HO_5 := n0_; have HO_6 := n1_; have HO_57 := n2_; have HO238 := n3_; have HB := n4_; clear n0_ n1_ n2_ n3_ n4_; have p239 : 0 ≤ (t232 : Int) := oD
            have q239 : t232 < (y235.length : Int) := (by have h_ : (t232 : Int) < ((x5_3.length : Int) : Int) := oD; first | (have e_ := (Kd.R_reads' HO_5.out).1; omega) | simpa only [Ny235.out, List.length_set] using h_)
            have ql239 : ((t232 : Int) < ((x5_3.length : Int) : Int)) = True := eq_true (oD)
            obtain ⟨ad239, e239, hx239_0⟩ := Kd.at_int (Kd.R_reads' HO_5.out).2.2 t232 p239 q239; obtain rfl : (⟨go22, 0, none⟩ : Addr) = ad239 := (by injection e239); (first | simp only [add_plain] at hx239_0 | simp only [add_at] at hx239_0 | simp only [Addr.add, Nat.zero_add] at hx239_0 | skip); replace p239 := eq_true p239; replace q239 := eq_true q239; have p240 : 0 ≤ (t224 : Int) := oD
            have q240 : t224 < (y235.length : Int) := (by have h_ : (t224 : Int) < ((x5_3.length : Int) : Int) := oD; first | (have e_ := (Kd.R_reads' HO_5.out).1; omega) | simpa only [Ny235.out, List.length_set] using h_)
            have ql240 : ((t224 : Int) < ((x5_3.length : Int) : Int)) = True := eq_true (oD)
            obtain ⟨ad240, e240, hx240_0⟩ := Kd.at_int (Kd.R_reads' HO_5.out).2.2 t224 p240 q240; obtain rfl : (⟨go22, 0, none⟩ : Addr) = ad240 := (by injection e240); (first | simp only [add_plain] at hx240_0 | simp only [add_at] at hx240_0 | simp only [Addr.add, Nat.zero_add] at hx240_0 | skip); replace p240 := eq_true p240; replace q240 := eq_true q240
            refine start_ (n := 10) (S := fun w' => w'.cell? ⟨go22, (t232).toNat, none⟩ = some (.int .i64 (rd y235 t232)) ∧ w'.cell? ⟨go22, (t224).toNat, none⟩ = some (.int .i64 (rd y235 t224))) (ds := []) #[F,F,F,F,F,F,F,F,F,F] (by kernel_rfl) rfl rfl ⟨hx239_0, hx240_0⟩ (fun hHeld => ?_); refine with_tabW impl_search.tab21 impl_search.bits21 (fun HT_ HW_ => ?_)
            generalize w61.drew = w62 at HO_5 HO_6 HO_57 HO238 HB hx239_0 hx240_0 hHeld ⊢
            refine pU 0 (some 88) #[T,F,F,F,F,F,F,F,F,F] HT_ ?_
            refine pU 1 (some 89) #[T,T,F,F,F,F,F,F,F,F] HT_ ?_
            refine pU 2 (some 90) #[T,T,T,F,F,F,F,F,F,F] HT_ ?_
            refine pU 4 (some 92) #[T,T,T,F,T,F,F,F,F,F] HT_ ?_
            refine pU 5 (some 93) #[T,T,T,F,T,T,F,F,F,F] HT_ ?_
            refine pU 6 (some 94) #[T,T,T,F,T,T,T,F,F,F] HT_ ?_
            refine take_ (i := 3) (N := some 91) (v := ?_) (a' := ?_) #[T,T,T,T,T,T,T,F,F,F] rfl rfl (take_ofW HT_.out HW_.out (by kernel_rfl)) (fun _ _ _ h => h) (Or.inl ⟨by rfl, ?_⟩) hHeld ?_ ?_
            rotate_left
            ·rintro w' ⟨s0, s1⟩
             go_simp
             with_reducible rfl
            rotate_left
            ·simp only [Act.put, sA, sB, sC, i64_w, i32_w]
             rfl
            refine take_ (i := 7) (N := some 95) (v := ?_) (a' := ?_) #[T,T,T,T,T,T,T,T,F,F] rfl rfl (take_ofW HT_.out HW_.out (by kernel_rfl)) (fun _ _ _ h => h) (Or.inl ⟨by rfl, ?_⟩) hHeld ?_ ?_
            rotate_left
            ·rintro w' ⟨s0, s1⟩
             go_simp
             with_reducible rfl
            rotate_left
            ·simp only [Act.put, sA, sB, sC, i64_w, i32_w]
             rfl
            refine pU 8 (some 96) #[T,T,T,T,T,T,T,T,T,F] HT_ ?_
            refine pU 9 (some 97) #[T,T,T,T,T,T,T,T,T,T] HT_ ?_
            refine done_ (done_of HT_.out (by kernel_rfl)) ?_
            try go_wp2
            have n0_ := aM (Kd.R_drew HO_5.out); have n1_ := aM (Kd.R_drew HO_6.out); have n2_ := aM (Kd.R_drew HO_57.out); have n3_ := aM (Kd.R_drew HO238.out); have n4_ := aM (below_drew1 HB.out); clear HO_5 HO_6 HO_57 HO238 HB; have HO_5 := n0_; have HO_6 := n1_; have HO_57 := n2_; have HO238 := n3_; have HB := n4_; clear n0_ n1_ n2_ n3_ n4_; obtain ⟨hx241_0, p241, q241⟩ := aY (Kd.at_int (Kd.R_reads' HO_6.out).2.2 t232); obtain ⟨hx242_0, p242, q242⟩ := aY (Kd.at_int (Kd.R_reads' HO_6.out).2.2 t224); obtain ⟨hx56_0, hf56_0, p56, q56⟩ := aC (Kd.R_celln 0 HO_6.out (t232 : Int))
            have HP64 := Kd.R_putn HO_6.out (t232 : Int) (wrap64 ((rd x6_3 t232) + (rd x6_3 t224)))
            rw [← Ny243.out] at HP64
            have HQ64 := aM HP64
            clear HP64
            refine start_ (n := 11) (S := fun w' => w'.cell? ⟨go25, (t232).toNat, none⟩ = some (.int .i64 (rd x6_3 t232)) ∧ w'.cell? ⟨go25, (t224).toNat, none⟩ = some (.int .i64 (rd x6_3 t224))) (ds := [10]) #[F,F,F,F,F,F,F,F,F,F,F] (by kernel_rfl) rfl rfl ⟨hx241_0, hx242_0⟩ (fun hHeld => ?_); refine with_tabW impl_search.tab22 impl_search.bits22 (fun HT_ HW_ => ?_)
            generalize w62.drew = w63 at HO_5 HO_6 HO_57 HO238 HB HQ64 hf56_0 hx241_0 hx242_0 hx56_0 hHeld ⊢
            refine pU 0 (some 98) #[T,F,F,F,F,F,F,F,F,F,F] HT_ ?_
            refine pU 1 (some 99) #[T,T,F,F,F,F,F,F,F,F,F] HT_ ?_
            refine pU 2 (some 100) #[T,T,T,F,F,F,F,F,F,F,F] HT_ ?_
            refine pU 4 (some 102) #[T,T,T,F,T,F,F,F,F,F,F] HT_ ?_
            refine pU 5 (some 103) #[T,T,T,F,T,T,F,F,F,F,F] HT_ ?_
            refine pU 6 (some 104) #[T,T,T,F,T,T,T,F,F,F,F] HT_ ?_
            refine take_ (i := 3) (N := some 101) (v := ?_) (a' := ?_) #[T,T,T,T,T,T,T,F,F,F,F] rfl rfl (take_ofW HT_.out HW_.out (by kernel_rfl)) (fun _ _ _ h => h) (Or.inl ⟨by rfl, ?_⟩) hHeld ?_ ?_
            rotate_left
            ·rintro w' ⟨s0, s1⟩
             go_simp
             with_reducible rfl
            rotate_left
            ·simp only [Act.put, sA, sB, sC, i64_w, i32_w]
             rfl
            refine take_ (i := 7) (N := some 105) (v := ?_) (a' := ?_) #[T,T,T,T,T,T,T,T,F,F,F] rfl rfl (take_ofW HT_.out HW_.out (by kernel_rfl)) (fun _ _ _ h => h) (Or.inl ⟨by rfl, ?_⟩) hHeld ?_ ?_
            rotate_left
            ·rintro w' ⟨s0, s1⟩
             go_simp
             with_reducible rfl
            rotate_left
            ·simp only [Act.put, sA, sB, sC, i64_w, i32_w]
             rfl
            refine pU 8 (some 106) #[T,T,T,T,T,T,T,T,T,F,F] HT_ ?_
            refine pU 9 (some 107) #[T,T,T,T,T,T,T,T,T,T,F] HT_ ?_
            refine last_ (i := 10) (N := none) #[T,T,T,T,T,T,T,T,T,T,T] rfl rfl (one_of HT_.out (by kernel_rfl)) (by decide) (fun K hK => ?_)
            refine skip_ (w1 := ?_) (by rfl) rfl ?_ ?_
            rotate_left
            ·go_simp
             rfl
            refine hK.out _ _ ?_
            clear hK K
            refine done_ (done_of HT_.out (by kernel_rfl)) ?_
            try go_wp2
            (try simp only [← hl5_3, ← hl6_3])
            go_roundg k3
            case measure => have := HK1.out; have := HK2.out; have := HK3.out; omega
            case rel => exact ⟨(y235), (y243), (y236), (wrap64 (x59_3 + 1)), (by first | rfl | (simp; done) | (simp [*]; done)), H', ⟨by have := HK1.out; have := HK2.out; have := HK3.out; omega⟩, ⟨by (try simp only [hl5_1]); (try simp only [hl5_2]); (try simp only [hl6_2]); (try simp only [hl5_3]); (try simp only [hl6_3]); (with_reducible repeat (first | apply rA | apply rN | apply rD)); exact Kd.R_mono (Kd.R_far (p := ⟨go25, (t232 : Int).toNat, none⟩) (Kd.R_mono HO_5.out (fun k_ hk => (⟨hk, fun e_ => hk.1 (by rw [e_]; rfl)⟩ : _ ∧ k_ ≠ go25))) (fun _ hk => hk.2) (.int .i64 (wrap64 ((rd x6_3 t232) + (rd x6_3 t224))))) (fun _ hk => ⟨hk.1.1, hk.1.2⟩)⟩, ⟨by (try simp only [hl5_1]); (try simp only [hl5_2]); (try simp only [hl6_2]); (try simp only [hl5_3]); (try simp only [hl6_3]); (with_reducible repeat (first | apply rA | apply rN | apply rD)); exact Kd.R_mono HQ64.out (fun _ hk => ⟨hk.2, hk.1⟩)⟩, ⟨by (try simp only [hl5_1]); (try simp only [hl5_2]); (try simp only [hl6_2]); (try simp only [hl5_3]); (try simp only [hl6_3]); (with_reducible repeat (first | apply rA | apply rN | apply rD)); exact Kd.R_mono (Kd.R_far (p := ⟨go25, (t232 : Int).toNat, none⟩) (Kd.R_types (t := 3) HO238.out (by first | exact GG25.out | exact (Kd.R_typed HO_6.out _ rfl).choose_spec) (by decide)) (fun _ hk => hk.2) (.int .i64 (wrap64 ((rd x6_3 t232) + (rd x6_3 t224))))) (fun _ hk => trivial)⟩, ⟨by (try simp only [hl5_1]); (try simp only [hl5_2]); (try simp only [hl6_2]); (try simp only [hl5_3]); (try simp only [hl6_3]); (with_reducible repeat (first | apply rA | apply rN | apply rD)); exact Kd.R_mono (Kd.R_far (p := ⟨go25, (t232 : Int).toNat, none⟩) (Kd.R_mono HO_57.out (fun k_ hk => (⟨hk, fun e_ => hk.1 (by rw [e_]; rfl)⟩ : _ ∧ k_ ≠ go25))) (fun _ hk => hk.2) (.int .i64 (wrap64 ((rd x6_3 t232) + (rd x6_3 t224))))) (fun _ hk => ⟨hk.1.2, hk.1.1⟩)⟩, ⟨by repeat first | exact HB.out | apply bA | apply bN | apply bD | refine bS ?_ GB25.out⟩⟩
           ·have c53b0 : ((rd y235 t232) == (wrap64 ((rd y235 t224) + 1))) = false := beq_eq_false_iff_ne.mpr c53
            have c53b1 : ((rd y235 t232) != (wrap64 ((rd y235 t224) + 1))) = true := bne_iff_ne.mpr c53
            have H' := aM H
            clear H; have p229 : 0 ≤ (x59_3 : Int) := of_decide_eq_true (by first | (with_reducible assumption) | assumption); have q229 : x59_3 < (t226.length : Int) := of_decide_eq_true (by first | (with_reducible assumption) | assumption); obtain ⟨ad229, e229, hx229_0⟩ := Kd.at_int (Kd.R_reads' HO_57.out).2.2 x59_3 p229 q229; cases e229; replace p229 := eq_true p229; replace q229 := eq_true q229
            obtain ⟨Ao65, co65, eo65⟩ := Kd.R_slice HO_8.out
            subst eo65
            obtain ⟨ad230, e230, hx230_0, p230, q230⟩ := aZ (Kd.at_string (Kd.R_reads' HO_8.out).2.2 x9_2); cases e230
            try go_wp2_with (first | ((with_reducible refine gC 35 rfl ?_); refine gL (some 68) Tryd.func35 #[.string (rdOf ByteArray.empty x8_3 x9_2), .int .i64 (rd t226 x59_3)] ?_; (with_reducible refine (impl_paired.calls (rdOf ByteArray.empty x8_3 x9_2) (rd t226 x59_3) t231 _ A44.out).mono ?_); rintro e w66 ⟨rfl, hb⟩; refine ⟨_, rfl, ?_⟩; replace HO_5 := aM (Kd.R_below HO_5.out hb); replace HO_6 := aM (Kd.R_below HO_6.out hb); replace HO_8 := aM (Kd.R_below HO_8.out hb); replace HO_57 := aM (Kd.R_below HO_57.out hb); replace HB := aM (below_step HB.out hb); (try clear hb)) | ((with_reducible refine gC 33 rfl ?_); refine gL (some 70) Tryd.func33 #[.string t231] ?_; (with_reducible refine (impl_number.calls k3 t231 t232 _ A45.out).mono ?_); rintro e w' ⟨rfl, ⟨nd, rfl⟩⟩; refine ⟨_, rfl, ?_⟩; (try (rw [drewN_self w66]; generalize hq_ : World.drewN w66 _ = w66; replace HO_5 := dR hq_ HO_5; replace HO_6 := dR hq_ HO_6; replace HO_8 := dR hq_ HO_8; replace HO_57 := dR hq_ HO_57; replace HB := dB hq_ HB; clear hq_)); obtain ⟨hx233_0, p233, q233⟩ := aY (Kd.at_int (Kd.R_reads' HO_5.out).2.2 t232); obtain ⟨hx234_0, p234, q234⟩ := aY (Kd.at_int (Kd.R_reads' HO_5.out).2.2 t224); obtain ⟨hx51_0, hf51_0, p51, q51⟩ := aC (Kd.R_celln 0 HO_5.out (t232 : Int)); obtain ⟨hy67_, hz67_⟩ := Kd.R_celln 0 HO_5.out (t232 : Int) (oD) (oD); have HP67 := Kd.R_putg HO_5.out (t232 : Int) (wrap64 ((rd x5_3 t224) + 1))) | ((with_reducible refine gate_store (t := 3) (p := 83) rfl ?_); refine store_event (t := 3) (p := 83) (v := ?vo_w68) (w1 := (w66.setCell ⟨go22, (t232 : Int).toNat, none⟩ (.int .i64 (wrap64 ((rd x5_3 t224) + 1))))) ?hg ?ho ?hn ?hr ?_; (case ho => rfl); (case hg => rfl); (case hn => rfl); (case hr => go_simp); intro w68 hw; have hg : w66.grownBy w68 (some go22) := (by rw [hw]; exact HP67.2); have hp_ : Kd.R (Kd.int .i64) 3 w68 w.heap.size (fun k_ => some k_ ≠ (.slice (some ⟨go25, 0, none⟩) x6_3.length co25 : Value).ownBlock ∧ some k_ ≠ (.slice (some ad229) t226.length co38 : Value).ownBlock) (.slice (some ⟨go22, 0, none⟩) x5_3.length co11) y235 := (by rw [hw, Ny235.out]; exact HP67.1); clear HP67; replace HO_6 := aM (Kd.R_after (v := (.slice (some ⟨go22, 0, none⟩) x5_3.length co11)) (v1 := (.slice (some ⟨go22, 0, none⟩) x5_3.length co11)) (ok := (fun k_ => some k_ ≠ (.slice (some ad229) t226.length co38 : Value).ownBlock)) (Kd.R_mono HO_6.out (fun _ hk => ⟨hk.2, hk.1⟩)) hg (.inl rfl)); replace HO_8 := aM (Kd.R_over' (v := (.slice (some ⟨go22, 0, none⟩) x5_3.length co11)) HO_8.out (Kd.R_typed HO_5.out) (by decide) hg); replace HO_5 := aM (hp_); replace HO_57 := aM (Kd.R_after (v := (.slice (some ⟨go22, 0, none⟩) x5_3.length co11)) (v1 := (.slice (some ⟨go22, 0, none⟩) x5_3.length co11)) (ok := (fun k_ => some k_ ≠ (.slice (some ⟨go25, 0, none⟩) x6_3.length co25 : Value).ownBlock)) (Kd.R_mono HO_57.out (fun _ hk => ⟨hk.2, hk.1⟩)) hg (.inl rfl)); replace HB := aM ((by rw [hw]; exact below_set (HB.out) GB22.out : Below w.heap.size w w68)); clear hg hw hp_) | ((with_reducible refine gate_builtin (b := .append) (xs := #[.tmp 84, .tmp 86]) rfl ?_); at_builtin; refine Kd.R_append Kd.string (w0 := w) w.heap.size rfl (.tmp 84) (.tmp 86) 44 9 (.string ⟨#[]⟩) 16 rfl Tryd.underlying44 info9 rfl (by decide) (by omega) (.slice (some ad230) x8_3.length co65) x8_3 t231 [.string t231] (fun _ => True) (fun _ => False) rfl rfl ?aP (fun _ hk => hk.elim) ?aF ?aO ?aB ?aS ?aL ?_; (case aP => exact rfl); (case aB => exact HB.out); (case aF => exact (fun _ _ => trivial)); (case aO => exact HO_8.out); (case aS => exact (below_size HB.out)); (case aL => have := LMc52.out; omega); intro v237 w69 ho hb hg hat; rw [← Ny236.out] at ho; replace HO_5 := aM (Kd.R_over' HO_5.out (Kd.R_typed HO_8.out) (by decide) hg); replace HO_6 := aM (Kd.R_over' HO_6.out (Kd.R_typed HO_8.out) (by decide) hg); replace HO_57 := aM (Kd.R_over' HO_57.out (Kd.R_typed HO_8.out) (by decide) hg); replace HB := aM (hb); have HO238 := aM (ho); clear ho hb hg hat))
            have n0_ := aM (Kd.R_drew HO_5.out); have n1_ := aM (Kd.R_drew HO_6.out); have n2_ := aM (Kd.R_drew HO_57.out); have n3_ := aM (Kd.R_drew HO238.out); have n4_ := aM (below_drew1 HB.out); clear HO_5 HO_6 HO_57 HO238 HB; have HO_5 := n0_; have HO_6 := n1_; have HO_57 := n2_; have HO238 := n3_; have HB := n4_; clear n0_ n1_ n2_ n3_ n4_; have p239 : 0 ≤ (t232 : Int) := oD
            have q239 : t232 < (y235.length : Int) := (by have h_ : (t232 : Int) < ((x5_3.length : Int) : Int) := oD; first | (have e_ := (Kd.R_reads' HO_5.out).1; omega) | simpa only [Ny235.out, List.length_set] using h_)
            have ql239 : ((t232 : Int) < ((x5_3.length : Int) : Int)) = True := eq_true (oD)
            obtain ⟨ad239, e239, hx239_0⟩ := Kd.at_int (Kd.R_reads' HO_5.out).2.2 t232 p239 q239; obtain rfl : (⟨go22, 0, none⟩ : Addr) = ad239 := (by injection e239); (first | simp only [add_plain] at hx239_0 | simp only [add_at] at hx239_0 | simp only [Addr.add, Nat.zero_add] at hx239_0 | skip); replace p239 := eq_true p239; replace q239 := eq_true q239; have p240 : 0 ≤ (t224 : Int) := oD
            have q240 : t224 < (y235.length : Int) := (by have h_ : (t224 : Int) < ((x5_3.length : Int) : Int) := oD; first | (have e_ := (Kd.R_reads' HO_5.out).1; omega) | simpa only [Ny235.out, List.length_set] using h_)
            have ql240 : ((t224 : Int) < ((x5_3.length : Int) : Int)) = True := eq_true (oD)
            obtain ⟨ad240, e240, hx240_0⟩ := Kd.at_int (Kd.R_reads' HO_5.out).2.2 t224 p240 q240; obtain rfl : (⟨go22, 0, none⟩ : Addr) = ad240 := (by injection e240); (first | simp only [add_plain] at hx240_0 | simp only [add_at] at hx240_0 | simp only [Addr.add, Nat.zero_add] at hx240_0 | skip); replace p240 := eq_true p240; replace q240 := eq_true q240
            refine start_ (n := 10) (S := fun w' => w'.cell? ⟨go22, (t232).toNat, none⟩ = some (.int .i64 (rd y235 t232)) ∧ w'.cell? ⟨go22, (t224).toNat, none⟩ = some (.int .i64 (rd y235 t224))) (ds := []) #[F,F,F,F,F,F,F,F,F,F] (by kernel_rfl) rfl rfl ⟨hx239_0, hx240_0⟩ (fun hHeld => ?_); refine with_tabW impl_search.tab21 impl_search.bits21 (fun HT_ HW_ => ?_)
            generalize w69.drew = w70 at HO_5 HO_6 HO_57 HO238 HB hx239_0 hx240_0 hHeld ⊢
            refine pU 0 (some 88) #[T,F,F,F,F,F,F,F,F,F] HT_ ?_
            refine pU 1 (some 89) #[T,T,F,F,F,F,F,F,F,F] HT_ ?_
            refine pU 2 (some 90) #[T,T,T,F,F,F,F,F,F,F] HT_ ?_
            refine pU 4 (some 92) #[T,T,T,F,T,F,F,F,F,F] HT_ ?_
            refine pU 5 (some 93) #[T,T,T,F,T,T,F,F,F,F] HT_ ?_
            refine pU 6 (some 94) #[T,T,T,F,T,T,T,F,F,F] HT_ ?_
            refine take_ (i := 3) (N := some 91) (v := ?_) (a' := ?_) #[T,T,T,T,T,T,T,F,F,F] rfl rfl (take_ofW HT_.out HW_.out (by kernel_rfl)) (fun _ _ _ h => h) (Or.inl ⟨by rfl, ?_⟩) hHeld ?_ ?_
            rotate_left
            ·rintro w' ⟨s0, s1⟩
             go_simp
             with_reducible rfl
            rotate_left
            ·simp only [Act.put, sA, sB, sC, i64_w, i32_w]
             rfl
            refine take_ (i := 7) (N := some 95) (v := ?_) (a' := ?_) #[T,T,T,T,T,T,T,T,F,F] rfl rfl (take_ofW HT_.out HW_.out (by kernel_rfl)) (fun _ _ _ h => h) (Or.inl ⟨by rfl, ?_⟩) hHeld ?_ ?_
            rotate_left
            ·rintro w' ⟨s0, s1⟩
             go_simp
             with_reducible rfl
            rotate_left
            ·simp only [Act.put, sA, sB, sC, i64_w, i32_w]
             rfl
            refine pU 8 (some 96) #[T,T,T,T,T,T,T,T,T,F] HT_ ?_
            refine pU 9 (some 97) #[T,T,T,T,T,T,T,T,T,T] HT_ ?_
            refine done_ (done_of HT_.out (by kernel_rfl)) ?_
            try go_wp2
            (try simp only [← hl5_3, ← hl6_3])
            go_roundg k3
            case measure => have := HK1.out; have := HK2.out; have := HK3.out; omega
            case rel => exact ⟨(y235), (x6_3), (y236), (wrap64 (x59_3 + 1)), (by first | rfl | (simp; done) | (simp [*]; done)), H', ⟨by have := HK1.out; have := HK2.out; have := HK3.out; omega⟩, ⟨by (try simp only [hl5_1]); (try simp only [hl5_2]); (try simp only [hl6_2]); (try simp only [hl5_3]); (try simp only [hl6_3]); (with_reducible repeat (first | apply rA | apply rN | apply rD)); exact HO_5.out⟩, ⟨by (try simp only [hl5_1]); (try simp only [hl5_2]); (try simp only [hl6_2]); (try simp only [hl5_3]); (try simp only [hl6_3]); (with_reducible repeat (first | apply rA | apply rN | apply rD)); exact Kd.R_mono HO_6.out (fun _ hk => ⟨hk.2, hk.1⟩)⟩, ⟨by (try simp only [hl5_1]); (try simp only [hl5_2]); (try simp only [hl6_2]); (try simp only [hl5_3]); (try simp only [hl6_3]); (with_reducible repeat (first | apply rA | apply rN | apply rD)); exact HO238.out⟩, ⟨by (try simp only [hl5_1]); (try simp only [hl5_2]); (try simp only [hl6_2]); (try simp only [hl5_3]); (try simp only [hl6_3]); (with_reducible repeat (first | apply rA | apply rN | apply rD)); exact Kd.R_mono HO_57.out (fun _ hk => ⟨hk.2, hk.1⟩)⟩, ⟨bQ⟩⟩
          ·have c48b0 := decide_eq_false c48
           clear c48
           replace H := iC H; obtain ⟨c71, H⟩ := H
           have c71b0 := decide_eq_true c71
           clear c71
           replace H := iC H; obtain ⟨c72, H⟩ := H
           have c72b0 := decide_eq_true c72
           (try (have c72m0 := c72b0; simp only [hl5_1] at c72m0)); (try (have c72m1 := c72b0; simp only [hl5_2] at c72m1)); (try (have c72m2 := c72b0; simp only [hl6_2] at c72m2)); (try (have c72m3 := c72b0; simp only [hl5_3] at c72m3)); (try (have c72m4 := c72b0; simp only [hl6_3] at c72m4))
           clear c72
           replace H := iO H; obtain ⟨c73, H⟩ | ⟨c73, H⟩ := H
           ·have c73b0 : ((rd x5_3 t232) == (wrap64 ((rd x5_3 t224) + 1))) = true := beq_iff_eq.mpr c73
            have c73b1 : ((rd x5_3 t232) != (wrap64 ((rd x5_3 t224) + 1))) = false := bne_eq_false_iff_eq.mpr c73
            clear c73
            replace H := iC H; obtain ⟨c74, H⟩ := H
            have c74b0 := decide_eq_true c74
            (try (have c74m0 := c74b0; simp only [hl5_1] at c74m0)); (try (have c74m1 := c74b0; simp only [hl5_2] at c74m1)); (try (have c74m2 := c74b0; simp only [hl6_2] at c74m2)); (try (have c74m3 := c74b0; simp only [hl5_3] at c74m3)); (try (have c74m4 := c74b0; simp only [hl6_3] at c74m4))
            clear c74
            replace H := iN H; obtain ⟨c75b0, H⟩ := H
            (try (have c75m0 := c75b0; simp only [hl5_1] at c75m0)); (try (have c75m1 := c75b0; simp only [hl5_2] at c75m1)); (try (have c75m2 := c75b0; simp only [hl6_2] at c75m2)); (try (have c75m3 := c75b0; simp only [hl5_3] at c75m3)); (try (have c75m4 := c75b0; simp only [hl6_3] at c75m4))
            obtain ⟨y248, hy248⟩ : ∃ y_ : List Int, y_ = (x6_3.set (t232 : Int).toNat (wrap64 ((rd x6_3 t232) + (rd x6_3 t224)))) := ⟨_, rfl⟩
            replace H : (impl_search.l2 k3 x5_3 y248 x8_3 x9_2 t224 t226 (t226.length : Int) (wrap64 (x59_3 + 1))) = some (r1, r2, r3) := by first | (rw [hy248]; with_reducible exact H) | (have H2_ := (Option.bind_some _ _).symm.trans H; rw [hy248]; with_reducible exact H2_) | (have H2_ := (Option.bind_some _ _).symm.trans H; with_reducible exact H2_) | with_reducible exact H | (rw [hy248]; exact H) | exact H
            have Ny248 := aM hy248
            clear hy248
            have H' := aM H
            clear H; have p229 : 0 ≤ (x59_3 : Int) := of_decide_eq_true (by first | (with_reducible assumption) | assumption); have q229 : x59_3 < (t226.length : Int) := of_decide_eq_true (by first | (with_reducible assumption) | assumption); obtain ⟨ad229, e229, hx229_0⟩ := Kd.at_int (Kd.R_reads' HO_57.out).2.2 x59_3 p229 q229; cases e229; replace p229 := eq_true p229; replace q229 := eq_true q229
            obtain ⟨Ao77, co77, eo77⟩ := Kd.R_slice HO_8.out
            subst eo77
            obtain ⟨ad230, e230, hx230_0, p230, q230⟩ := aZ (Kd.at_string (Kd.R_reads' HO_8.out).2.2 x9_2); cases e230
            try go_wp2_with (first | ((with_reducible refine gC 35 rfl ?_); refine gL (some 68) Tryd.func35 #[.string (rdOf ByteArray.empty x8_3 x9_2), .int .i64 (rd t226 x59_3)] ?_; (with_reducible refine (impl_paired.calls (rdOf ByteArray.empty x8_3 x9_2) (rd t226 x59_3) t231 _ A44.out).mono ?_); rintro e w78 ⟨rfl, hb⟩; refine ⟨_, rfl, ?_⟩; replace HO_5 := aM (Kd.R_below HO_5.out hb); replace HO_6 := aM (Kd.R_below HO_6.out hb); replace HO_8 := aM (Kd.R_below HO_8.out hb); replace HO_57 := aM (Kd.R_below HO_57.out hb); replace HB := aM (below_step HB.out hb); (try clear hb)) | ((with_reducible refine gC 33 rfl ?_); refine gL (some 70) Tryd.func33 #[.string t231] ?_; (with_reducible refine (impl_number.calls k3 t231 t232 _ A45.out).mono ?_); rintro e w' ⟨rfl, ⟨nd, rfl⟩⟩; refine ⟨_, rfl, ?_⟩; (try (rw [drewN_self w78]; generalize hq_ : World.drewN w78 _ = w78; replace HO_5 := dR hq_ HO_5; replace HO_6 := dR hq_ HO_6; replace HO_8 := dR hq_ HO_8; replace HO_57 := dR hq_ HO_57; replace HB := dB hq_ HB; clear hq_)); obtain ⟨hx233_0, p233, q233⟩ := aY (Kd.at_int (Kd.R_reads' HO_5.out).2.2 t232)))
            have n0_ := aM (Kd.R_drew HO_5.out); have n1_ := aM (Kd.R_drew HO_6.out); have n2_ := aM (Kd.R_drew HO_8.out); have n3_ := aM (Kd.R_drew HO_57.out); have n4_ := aM (below_drew1 HB.out); clear HO_5 HO_6 HO_8 HO_57 HB; have HO_5 := n0_; have HO_6 := n1_; have HO_8 := n2_; have HO_57 := n3_; have HB := n4_; clear n0_ n1_ n2_ n3_ n4_; obtain ⟨hx244_0, p244, q244⟩ := aY (Kd.at_int (Kd.R_reads' HO_5.out).2.2 t232); obtain ⟨hx245_0, p245, q245⟩ := aY (Kd.at_int (Kd.R_reads' HO_5.out).2.2 t224)
            refine start_ (n := 10) (S := fun w' => w'.cell? ⟨go22, (t232).toNat, none⟩ = some (.int .i64 (rd x5_3 t232)) ∧ w'.cell? ⟨go22, (t224).toNat, none⟩ = some (.int .i64 (rd x5_3 t224))) (ds := []) #[F,F,F,F,F,F,F,F,F,F] (by kernel_rfl) rfl rfl ⟨hx244_0, hx245_0⟩ (fun hHeld => ?_); refine with_tabW impl_search.tab21 impl_search.bits21 (fun HT_ HW_ => ?_)
            generalize w78.drew = w79 at HO_5 HO_6 HO_8 HO_57 HB hx244_0 hx245_0 hHeld ⊢
            refine pU 0 (some 88) #[T,F,F,F,F,F,F,F,F,F] HT_ ?_
            refine pU 1 (some 89) #[T,T,F,F,F,F,F,F,F,F] HT_ ?_
            refine pU 2 (some 90) #[T,T,T,F,F,F,F,F,F,F] HT_ ?_
            refine pU 4 (some 92) #[T,T,T,F,T,F,F,F,F,F] HT_ ?_
            refine pU 5 (some 93) #[T,T,T,F,T,T,F,F,F,F] HT_ ?_
            refine pU 6 (some 94) #[T,T,T,F,T,T,T,F,F,F] HT_ ?_
            refine take_ (i := 3) (N := some 91) (v := ?_) (a' := ?_) #[T,T,T,T,T,T,T,F,F,F] rfl rfl (take_ofW HT_.out HW_.out (by kernel_rfl)) (fun _ _ _ h => h) (Or.inl ⟨by rfl, ?_⟩) hHeld ?_ ?_
            rotate_left
            ·rintro w' ⟨s0, s1⟩
             go_simp
             with_reducible rfl
            rotate_left
            ·simp only [Act.put, sA, sB, sC, i64_w, i32_w]
             rfl
            refine take_ (i := 7) (N := some 95) (v := ?_) (a' := ?_) #[T,T,T,T,T,T,T,T,F,F] rfl rfl (take_ofW HT_.out HW_.out (by kernel_rfl)) (fun _ _ _ h => h) (Or.inl ⟨by rfl, ?_⟩) hHeld ?_ ?_
            rotate_left
            ·rintro w' ⟨s0, s1⟩
             go_simp
             with_reducible rfl
            rotate_left
            ·simp only [Act.put, sA, sB, sC, i64_w, i32_w]
             rfl
            refine pU 8 (some 96) #[T,T,T,T,T,T,T,T,T,F] HT_ ?_
            refine pU 9 (some 97) #[T,T,T,T,T,T,T,T,T,T] HT_ ?_
            refine done_ (done_of HT_.out (by kernel_rfl)) ?_
            try go_wp2
            have n0_ := aM (Kd.R_drew HO_5.out); have n1_ := aM (Kd.R_drew HO_6.out); have n2_ := aM (Kd.R_drew HO_8.out); have n3_ := aM (Kd.R_drew HO_57.out); have n4_ := aM (below_drew1 HB.out); clear HO_5 HO_6 HO_8 HO_57 HB; have HO_5 := n0_; have HO_6 := n1_; have HO_8 := n2_; have HO_57 := n3_; have HB := n4_; clear n0_ n1_ n2_ n3_ n4_; obtain ⟨hx246_0, p246, q246⟩ := aY (Kd.at_int (Kd.R_reads' HO_6.out).2.2 t232); obtain ⟨hx247_0, p247, q247⟩ := aY (Kd.at_int (Kd.R_reads' HO_6.out).2.2 t224); obtain ⟨hx76_0, hf76_0, p76, q76⟩ := aC (Kd.R_celln 0 HO_6.out (t232 : Int))
            have HP81 := Kd.R_putn HO_6.out (t232 : Int) (wrap64 ((rd x6_3 t232) + (rd x6_3 t224)))
            rw [← Ny248.out] at HP81
            have HQ81 := aM HP81
            clear HP81
            refine start_ (n := 11) (S := fun w' => w'.cell? ⟨go25, (t232).toNat, none⟩ = some (.int .i64 (rd x6_3 t232)) ∧ w'.cell? ⟨go25, (t224).toNat, none⟩ = some (.int .i64 (rd x6_3 t224))) (ds := [10]) #[F,F,F,F,F,F,F,F,F,F,F] (by kernel_rfl) rfl rfl ⟨hx246_0, hx247_0⟩ (fun hHeld => ?_); refine with_tabW impl_search.tab22 impl_search.bits22 (fun HT_ HW_ => ?_)
            generalize w79.drew = w80 at HO_5 HO_6 HO_8 HO_57 HB HQ81 hf76_0 hx246_0 hx247_0 hx76_0 hHeld ⊢
            refine pU 0 (some 98) #[T,F,F,F,F,F,F,F,F,F,F] HT_ ?_
            refine pU 1 (some 99) #[T,T,F,F,F,F,F,F,F,F,F] HT_ ?_
            refine pU 2 (some 100) #[T,T,T,F,F,F,F,F,F,F,F] HT_ ?_
            refine pU 4 (some 102) #[T,T,T,F,T,F,F,F,F,F,F] HT_ ?_
            refine pU 5 (some 103) #[T,T,T,F,T,T,F,F,F,F,F] HT_ ?_
            refine pU 6 (some 104) #[T,T,T,F,T,T,T,F,F,F,F] HT_ ?_
            refine take_ (i := 3) (N := some 101) (v := ?_) (a' := ?_) #[T,T,T,T,T,T,T,F,F,F,F] rfl rfl (take_ofW HT_.out HW_.out (by kernel_rfl)) (fun _ _ _ h => h) (Or.inl ⟨by rfl, ?_⟩) hHeld ?_ ?_
            rotate_left
            ·rintro w' ⟨s0, s1⟩
             go_simp
             with_reducible rfl
            rotate_left
            ·simp only [Act.put, sA, sB, sC, i64_w, i32_w]
             rfl
            refine take_ (i := 7) (N := some 105) (v := ?_) (a' := ?_) #[T,T,T,T,T,T,T,T,F,F,F] rfl rfl (take_ofW HT_.out HW_.out (by kernel_rfl)) (fun _ _ _ h => h) (Or.inl ⟨by rfl, ?_⟩) hHeld ?_ ?_
            rotate_left
            ·rintro w' ⟨s0, s1⟩
             go_simp
             with_reducible rfl
            rotate_left
            ·simp only [Act.put, sA, sB, sC, i64_w, i32_w]
             rfl
            refine pU 8 (some 106) #[T,T,T,T,T,T,T,T,T,F,F] HT_ ?_
            refine pU 9 (some 107) #[T,T,T,T,T,T,T,T,T,T,F] HT_ ?_
            refine last_ (i := 10) (N := none) #[T,T,T,T,T,T,T,T,T,T,T] rfl rfl (one_of HT_.out (by kernel_rfl)) (by decide) (fun K hK => ?_)
            refine skip_ (w1 := ?_) (by rfl) rfl ?_ ?_
            rotate_left
            ·go_simp
             rfl
            refine hK.out _ _ ?_
            clear hK K
            refine done_ (done_of HT_.out (by kernel_rfl)) ?_
            try go_wp2
            (try simp only [← hl5_3, ← hl6_3])
            go_roundg k3
            case measure => have := HK1.out; have := HK2.out; have := HK3.out; omega
            case rel => exact ⟨(x5_3), (y248), (x8_3), (wrap64 (x59_3 + 1)), (by first | rfl | (simp; done) | (simp [*]; done)), H', ⟨by have := HK1.out; have := HK2.out; have := HK3.out; omega⟩, ⟨by (try simp only [hl5_1]); (try simp only [hl5_2]); (try simp only [hl6_2]); (try simp only [hl5_3]); (try simp only [hl6_3]); (with_reducible repeat (first | apply rA | apply rN | apply rD)); exact Kd.R_mono (Kd.R_far (p := ⟨go25, (t232 : Int).toNat, none⟩) (Kd.R_mono HO_5.out (fun k_ hk => (⟨hk, fun e_ => hk.1 (by rw [e_]; rfl)⟩ : _ ∧ k_ ≠ go25))) (fun _ hk => hk.2) (.int .i64 (wrap64 ((rd x6_3 t232) + (rd x6_3 t224))))) (fun _ hk => ⟨hk.1.1, hk.1.2⟩)⟩, ⟨by (try simp only [hl5_1]); (try simp only [hl5_2]); (try simp only [hl6_2]); (try simp only [hl5_3]); (try simp only [hl6_3]); (with_reducible repeat (first | apply rA | apply rN | apply rD)); exact HQ81.out⟩, ⟨by (try simp only [hl5_1]); (try simp only [hl5_2]); (try simp only [hl6_2]); (try simp only [hl5_3]); (try simp only [hl6_3]); (with_reducible repeat (first | apply rA | apply rN | apply rD)); exact Kd.R_mono (Kd.R_far (p := ⟨go25, (t232 : Int).toNat, none⟩) (Kd.R_types (t := 3) HO_8.out (by first | exact GG25.out | exact (Kd.R_typed HO_6.out _ rfl).choose_spec) (by decide)) (fun _ hk => hk.2) (.int .i64 (wrap64 ((rd x6_3 t232) + (rd x6_3 t224))))) (fun _ hk => trivial)⟩, ⟨by (try simp only [hl5_1]); (try simp only [hl5_2]); (try simp only [hl6_2]); (try simp only [hl5_3]); (try simp only [hl6_3]); (with_reducible repeat (first | apply rA | apply rN | apply rD)); exact Kd.R_mono (Kd.R_far (p := ⟨go25, (t232 : Int).toNat, none⟩) (Kd.R_mono HO_57.out (fun k_ hk => (⟨hk, fun e_ => hk.2 (by rw [e_]; rfl)⟩ : _ ∧ k_ ≠ go25))) (fun _ hk => hk.2) (.int .i64 (wrap64 ((rd x6_3 t232) + (rd x6_3 t224))))) (fun _ hk => ⟨hk.1.1, hk.1.2⟩)⟩, ⟨by repeat first | exact HB.out | apply bA | apply bN | apply bD | refine bS ?_ GB25.out⟩⟩
           ·have c73b0 : ((rd x5_3 t232) == (wrap64 ((rd x5_3 t224) + 1))) = false := beq_eq_false_iff_ne.mpr c73
            have c73b1 : ((rd x5_3 t232) != (wrap64 ((rd x5_3 t224) + 1))) = true := bne_iff_ne.mpr c73
            have H' := aM H
            clear H; have p229 : 0 ≤ (x59_3 : Int) := of_decide_eq_true (by first | (with_reducible assumption) | assumption); have q229 : x59_3 < (t226.length : Int) := of_decide_eq_true (by first | (with_reducible assumption) | assumption); obtain ⟨ad229, e229, hx229_0⟩ := Kd.at_int (Kd.R_reads' HO_57.out).2.2 x59_3 p229 q229; cases e229; replace p229 := eq_true p229; replace q229 := eq_true q229
            obtain ⟨Ao82, co82, eo82⟩ := Kd.R_slice HO_8.out
            subst eo82
            obtain ⟨ad230, e230, hx230_0, p230, q230⟩ := aZ (Kd.at_string (Kd.R_reads' HO_8.out).2.2 x9_2); cases e230
            try go_wp2_with (first | ((with_reducible refine gC 35 rfl ?_); refine gL (some 68) Tryd.func35 #[.string (rdOf ByteArray.empty x8_3 x9_2), .int .i64 (rd t226 x59_3)] ?_; (with_reducible refine (impl_paired.calls (rdOf ByteArray.empty x8_3 x9_2) (rd t226 x59_3) t231 _ A44.out).mono ?_); rintro e w83 ⟨rfl, hb⟩; refine ⟨_, rfl, ?_⟩; replace HO_5 := aM (Kd.R_below HO_5.out hb); replace HO_6 := aM (Kd.R_below HO_6.out hb); replace HO_8 := aM (Kd.R_below HO_8.out hb); replace HO_57 := aM (Kd.R_below HO_57.out hb); replace HB := aM (below_step HB.out hb); (try clear hb)) | ((with_reducible refine gC 33 rfl ?_); refine gL (some 70) Tryd.func33 #[.string t231] ?_; (with_reducible refine (impl_number.calls k3 t231 t232 _ A45.out).mono ?_); rintro e w' ⟨rfl, ⟨nd, rfl⟩⟩; refine ⟨_, rfl, ?_⟩; obtain ⟨hx233_0, p233, q233⟩ := aY (Kd.at_int (Kd.R_reads' HO_5.out).2.2 t232)))
            (try (rw [drewN_self w83]; generalize hq_ : World.drewN w83 _ = w83; replace HO_5 := dR hq_ HO_5; replace HO_6 := dR hq_ HO_6; replace HO_8 := dR hq_ HO_8; replace HO_57 := dR hq_ HO_57; replace HB := dB hq_ HB; clear hq_))
            have n0_ := aM (Kd.R_drew HO_5.out); have n1_ := aM (Kd.R_drew HO_6.out); have n2_ := aM (Kd.R_drew HO_8.out); have n3_ := aM (Kd.R_drew HO_57.out); have n4_ := aM (below_drew1 HB.out); clear HO_5 HO_6 HO_8 HO_57 HB; have HO_5 := n0_; have HO_6 := n1_; have HO_8 := n2_; have HO_57 := n3_; have HB := n4_; clear n0_ n1_ n2_ n3_ n4_; obtain ⟨hx244_0, p244, q244⟩ := aY (Kd.at_int (Kd.R_reads' HO_5.out).2.2 t232); obtain ⟨hx245_0, p245, q245⟩ := aY (Kd.at_int (Kd.R_reads' HO_5.out).2.2 t224)
            refine start_ (n := 10) (S := fun w' => w'.cell? ⟨go22, (t232).toNat, none⟩ = some (.int .i64 (rd x5_3 t232)) ∧ w'.cell? ⟨go22, (t224).toNat, none⟩ = some (.int .i64 (rd x5_3 t224))) (ds := []) #[F,F,F,F,F,F,F,F,F,F] (by kernel_rfl) rfl rfl ⟨hx244_0, hx245_0⟩ (fun hHeld => ?_); refine with_tabW impl_search.tab21 impl_search.bits21 (fun HT_ HW_ => ?_)
            generalize w83.drew = w84 at HO_5 HO_6 HO_8 HO_57 HB hx244_0 hx245_0 hHeld ⊢
            refine pU 0 (some 88) #[T,F,F,F,F,F,F,F,F,F] HT_ ?_
            refine pU 1 (some 89) #[T,T,F,F,F,F,F,F,F,F] HT_ ?_
            refine pU 2 (some 90) #[T,T,T,F,F,F,F,F,F,F] HT_ ?_
            refine pU 4 (some 92) #[T,T,T,F,T,F,F,F,F,F] HT_ ?_
            refine pU 5 (some 93) #[T,T,T,F,T,T,F,F,F,F] HT_ ?_
            refine pU 6 (some 94) #[T,T,T,F,T,T,T,F,F,F] HT_ ?_
            refine take_ (i := 3) (N := some 91) (v := ?_) (a' := ?_) #[T,T,T,T,T,T,T,F,F,F] rfl rfl (take_ofW HT_.out HW_.out (by kernel_rfl)) (fun _ _ _ h => h) (Or.inl ⟨by rfl, ?_⟩) hHeld ?_ ?_
            rotate_left
            ·rintro w' ⟨s0, s1⟩
             go_simp
             with_reducible rfl
            rotate_left
            ·simp only [Act.put, sA, sB, sC, i64_w, i32_w]
             rfl
            refine take_ (i := 7) (N := some 95) (v := ?_) (a' := ?_) #[T,T,T,T,T,T,T,T,F,F] rfl rfl (take_ofW HT_.out HW_.out (by kernel_rfl)) (fun _ _ _ h => h) (Or.inl ⟨by rfl, ?_⟩) hHeld ?_ ?_
            rotate_left
            ·rintro w' ⟨s0, s1⟩
             go_simp
             with_reducible rfl
            rotate_left
            ·simp only [Act.put, sA, sB, sC, i64_w, i32_w]
             rfl
            refine pU 8 (some 96) #[T,T,T,T,T,T,T,T,T,F] HT_ ?_
            refine pU 9 (some 97) #[T,T,T,T,T,T,T,T,T,T] HT_ ?_
            refine done_ (done_of HT_.out (by kernel_rfl)) ?_
            try go_wp2
            (try simp only [← hl5_3, ← hl6_3])
            go_roundg k3
            case measure => have := HK1.out; have := HK2.out; have := HK3.out; omega
            case rel => exact ⟨(x5_3), (x6_3), (x8_3), (wrap64 (x59_3 + 1)), (by first | rfl | (simp; done) | (simp [*]; done)), H', ⟨by have := HK1.out; have := HK2.out; have := HK3.out; omega⟩, ⟨by (try simp only [hl5_1]); (try simp only [hl5_2]); (try simp only [hl6_2]); (try simp only [hl5_3]); (try simp only [hl6_3]); (with_reducible repeat (first | apply rA | apply rN | apply rD)); exact HO_5.out⟩, ⟨by (try simp only [hl5_1]); (try simp only [hl5_2]); (try simp only [hl6_2]); (try simp only [hl5_3]); (try simp only [hl6_3]); (with_reducible repeat (first | apply rA | apply rN | apply rD)); exact HO_6.out⟩, ⟨by (try simp only [hl5_1]); (try simp only [hl5_2]); (try simp only [hl6_2]); (try simp only [hl5_3]); (try simp only [hl6_3]); (with_reducible repeat (first | apply rA | apply rN | apply rD)); exact HO_8.out⟩, ⟨by (try simp only [hl5_1]); (try simp only [hl5_2]); (try simp only [hl6_2]); (try simp only [hl5_3]); (try simp only [hl6_3]); (with_reducible repeat (first | apply rA | apply rN | apply rD)); exact HO_57.out⟩, ⟨bQ⟩⟩
         ·have c39b0 := decide_eq_false c39
          (try (have c39m0 := c39b0; simp only [hl5_1] at c39m0)); (try (have c39m1 := c39b0; simp only [hl5_2] at c39m1)); (try (have c39m2 := c39b0; simp only [hl6_2] at c39m2)); (try (have c39m3 := c39b0; simp only [hl5_3] at c39m3)); (try (have c39m4 := c39b0; simp only [hl6_3] at c39m4))
          clear c39
          have H' := aM H
          clear H
          go_wp2
          (try simp only [← hl5_2, ← hl6_2, ← hl5_3, ← hl6_3])
          go_roundg k3
          case measure => have := HK1.out; have := HK2.out; have := HK3.out; omega
          case rel => exact ⟨(x5_3), (x6_3), (x8_3), (wrap64 (x9_2 + 1)), (by first | rfl | (simp; done) | (simp [*]; done)), H', ⟨by have := HK1.out; have := HK2.out; have := HK3.out; omega⟩, ⟨by (try simp only [hl5_1]); (try simp only [hl5_2]); (try simp only [hl6_2]); (try simp only [hl5_3]); (try simp only [hl6_3]); (with_reducible repeat (first | apply rA | apply rN | apply rD)); exact Kd.R_mono HO_5.out (fun _ hk => hk.1)⟩, ⟨by (try simp only [hl5_1]); (try simp only [hl5_2]); (try simp only [hl6_2]); (try simp only [hl5_3]); (try simp only [hl6_3]); (with_reducible repeat (first | apply rA | apply rN | apply rD)); exact Kd.R_mono HO_6.out (fun _ hk => hk.1)⟩, ⟨by (try simp only [hl5_1]); (try simp only [hl5_2]); (try simp only [hl6_2]); (try simp only [hl5_3]); (try simp only [hl6_3]); (with_reducible repeat (first | apply rA | apply rN | apply rD)); exact HO_8.out⟩, ⟨bQ⟩⟩
      ·have c32b0 := decide_eq_false c32
       (try (have c32m0 := c32b0; simp only [hl5_1] at c32m0)); (try (have c32m1 := c32b0; simp only [hl5_2] at c32m1)); (try (have c32m2 := c32b0; simp only [hl6_2] at c32m2))
       clear c32
       simp only [Option.some.injEq, Prod.mk.injEq] at H
       obtain ⟨rfl, rfl, rfl⟩ := H
       obtain ⟨Ao85, co85, eo85⟩ := Kd.R_slice HO_8.out
       subst eo85
       go_wp2
       go_ret3
       exact ⟨_, _, _, by first | rfl | (simp [errW_none, errW_some] <;> rfl) | (simp only [← hji2]; first | rfl | (simp [errW_none, errW_some] <;> rfl)) | (simp [*, errW_none, errW_some] <;> rfl), HO_5.out, HO_6.out, HO_8.out, HB.out⟩
end Go.Proofs.YtppbohghongfmaaDoor.PN
