-- written by a program of this session's (wip/tools), over the kit's print
import Derived.Test.YtehhfcbhoaocdaaPPx0
import Derived.Test.YtehhfcbhoaocdaaPPx1
import Derived.Test.YtehhfcbhoaocdaaPPx4
import Derived.Test.YtehhfcbhoaocdaaPPx5
-- squeezed
-- squeezed twice
namespace Go.Proofs.Ytehhfcbhoaocdaa.PP
open Go.RowKit Go.Proofs.YtehhfcbhoaocdaaW.PrintWords Go.Proofs.YtehhfcbhoaocdaaW.PrintLast Go.Proofs.YtehhfcbhoaocdaaW.PrintMore
attribute [local go_sem] max2_int min2_int max_two min_two max_three min_three max_four min_four   -- for this text's walks alone
set_option linter.unusedVariables false
set_option linter.unusedSimpArgs false

/-! ### spec_boFar: function 22 -/
mutual
def spec_boFar.l0 : Nat → ByteArray → List Int → Int → Int → List Int → List (S77) → Option (List Int × List ByteArray)
 | 0, _, _, _, _, _, _ => none
 | k + 1, x1, x6, x20, x21, x160000, x160001 => if x21 < x20 then (if 0 ≤ x21 then (if x21 < (x6.length : Int) then (spec_boFar.l0 k x1 (x6.set (x21 : Int).toNat (-1)) x20 (wrap64 (x21 + 1)) x160000 x160001) else (none)) else (none)) else ((spec_boNumber.f k x160000 x160001 x1).bind fun t165 => (if 0 ≤ t165 then (if t165 < (x6.length : Int) then (spec_boFar.l1 k (x6.set (t165 : Int).toNat 0) (([x1] : List ByteArray)) 0 x160000 x160001) else (none)) else (none)))
def spec_boFar.l1 : Nat → List Int → List ByteArray → Int → List Int → List (S77) → Option (List Int × List ByteArray)
 | 0, _, _, _, _, _ => none
 | k + 1, x6, x8, x9, x160000, x160001 => if x9 < (x8.length : Int) then (if 0 ≤ x9 then ((spec_boNumber.f k x160000 x160001 (rdOf ByteArray.empty x8 x9)).bind fun t171 => (if 0 ≤ t171 then (if t171 < (x6.length : Int) then ((spec_boSlides.f k x160000 x160001 (rdOf ByteArray.empty x8 x9)).bind fun t174 => (spec_boFar.l2 k x6 x8 x9 (rd x6 t171) t174 (t174.length : Int) 0 x160000 x160001)) else (none)) else (none))) else (none)) else (some (x6, x8))
def spec_boFar.l2 : Nat → List Int → List ByteArray → Int → Int → List (S62) → Int → Int → List Int → List (S77) → Option (List Int × List ByteArray)
 | 0, _, _, _, _, _, _, _, _, _ => none
 | k + 1, x6, x8, x9, x10, x55, x56, x57, x160000, x160001 => if x57 < x56 then (if 0 ≤ x57 then (if x57 < (x55.length : Int) then (if 0 ≤ x9 then (if x9 < (x8.length : Int) then ((spec_boPut.f k x160000 x160001 (rdOf ByteArray.empty x8 x9) ((rd_T62 x55 x57).f0) ((rd_T62 x55 x57).f1)).bind fun bt180 => ((spec_boNumber.f k x160000 x160001 bt180.1).bind fun t182 => (if 0 ≤ t182 then (if t182 < (x6.length : Int) then (if (rd x6 t182) < 0 then (if x8.length < 8796093022208 then (spec_boFar.l2 k (x6.set (t182 : Int).toNat (wrap64 (x10 + 1))) (x8 ++ [bt180.1]) x9 x10 x55 x56 (wrap64 (x57 + 1)) x160000 x160001) else (none)) else (spec_boFar.l2 k x6 x8 x9 x10 x55 x56 (wrap64 (x57 + 1)) x160000 x160001)) else (none)) else (none)))) else (none)) else (none)) else (none)) else (none)) else (spec_boFar.l1 k x6 x8 (wrap64 (x9 + 1)) x160000 x160001)
end
def spec_boFar.f (k : Nat) (l0_0 : List Int) (l0_1 : List (S77)) (a1 : ByteArray) : Option (List Int × List ByteArray) := (spec_boCount.f k l0_0 l0_1).bind fun t160 => (if 0 ≤ t160 then (if (t160 : Int).toNat ≤ 35184372088832 then ((some (List.replicate (t160 : Int).toNat 0 : List Int)).bind fun y161 => (spec_boFar.l0 k a1 y161 (y161.length : Int) 0 l0_0 l0_1)) else (none)) else (none))
theorem spec_boFar.mono_l : ∀ k, (∀ y0 y1 y2 y3 y4 y5, LeO (spec_boFar.l0 k y0 y1 y2 y3 y4 y5) (spec_boFar.l0 (k + 1) y0 y1 y2 y3 y4 y5)) ∧ (∀ y0 y1 y2 y3 y4, LeO (spec_boFar.l1 k y0 y1 y2 y3 y4) (spec_boFar.l1 (k + 1) y0 y1 y2 y3 y4)) ∧ (∀ y0 y1 y2 y3 y4 y5 y6 y7 y8, LeO (spec_boFar.l2 k y0 y1 y2 y3 y4 y5 y6 y7 y8) (spec_boFar.l2 (k + 1) y0 y1 y2 y3 y4 y5 y6 y7 y8))
 | 0 => ⟨fun _ _ _ _ _ _ r h => by simp [spec_boFar.l0] at h, fun _ _ _ _ _ r h => by simp [spec_boFar.l1] at h, fun _ _ _ _ _ _ _ _ _ r h => by simp [spec_boFar.l2] at h⟩
 | k + 1 => by
  obtain ⟨ih0, ih1, ih2⟩ := spec_boFar.mono_l k
  refine ⟨?_, ?_, ?_⟩
  ·intro y0 y1 y2 y3 y4 y5
   unfold spec_boFar.l0
   repeat' first
   | (with_reducible exact ih0 _ _ _ _ _ _)
   | (with_reducible exact ih1 _ _ _ _ _)
   | (with_reducible exact ih2 _ _ _ _ _ _ _ _ _)
   | (with_reducible exact spec_boCount.mono _ _ _)
   | (with_reducible exact spec_boNumber.mono _ _ _ _)
   | (with_reducible exact spec_boPut.mono _ _ _ _ _ _)
   | (with_reducible exact spec_boSlides.mono _ _ _ _)
   | (with_reducible exact LeO.refl _)
   | (with_reducible exact LeO.none _)
   | (with_reducible refine LeO.ite ?_ ?_)
   | (with_reducible refine LeO.bind ?_ (fun _ => ?_))
   | exact ih0 _ _ _ _ _ _
   | exact ih1 _ _ _ _ _
   | exact ih2 _ _ _ _ _ _ _ _ _
   | exact spec_boCount.mono _ _ _
   | exact spec_boNumber.mono _ _ _ _
   | exact spec_boPut.mono _ _ _ _ _ _
   | exact spec_boSlides.mono _ _ _ _
   | exact LeO.none _
   | refine LeO.ite ?_ ?_
   | refine LeO.bind ?_ (fun _ => ?_)
  ·intro y0 y1 y2 y3 y4
   unfold spec_boFar.l1
   repeat' first
   | (with_reducible exact ih0 _ _ _ _ _ _)
   | (with_reducible exact ih1 _ _ _ _ _)
   | (with_reducible exact ih2 _ _ _ _ _ _ _ _ _)
   | (with_reducible exact spec_boCount.mono _ _ _)
   | (with_reducible exact spec_boNumber.mono _ _ _ _)
   | (with_reducible exact spec_boPut.mono _ _ _ _ _ _)
   | (with_reducible exact spec_boSlides.mono _ _ _ _)
   | (with_reducible exact LeO.refl _)
   | (with_reducible exact LeO.none _)
   | (with_reducible refine LeO.ite ?_ ?_)
   | (with_reducible refine LeO.bind ?_ (fun _ => ?_))
   | exact ih0 _ _ _ _ _ _
   | exact ih1 _ _ _ _ _
   | exact ih2 _ _ _ _ _ _ _ _ _
   | exact spec_boCount.mono _ _ _
   | exact spec_boNumber.mono _ _ _ _
   | exact spec_boPut.mono _ _ _ _ _ _
   | exact spec_boSlides.mono _ _ _ _
   | exact LeO.none _
   | refine LeO.ite ?_ ?_
   | refine LeO.bind ?_ (fun _ => ?_)
  ·intro y0 y1 y2 y3 y4 y5 y6 y7 y8
   unfold spec_boFar.l2
   repeat' first
   | (with_reducible exact ih0 _ _ _ _ _ _)
   | (with_reducible exact ih1 _ _ _ _ _)
   | (with_reducible exact ih2 _ _ _ _ _ _ _ _ _)
   | (with_reducible exact spec_boCount.mono _ _ _)
   | (with_reducible exact spec_boNumber.mono _ _ _ _)
   | (with_reducible exact spec_boPut.mono _ _ _ _ _ _)
   | (with_reducible exact spec_boSlides.mono _ _ _ _)
   | (with_reducible exact LeO.refl _)
   | (with_reducible exact LeO.none _)
   | (with_reducible refine LeO.ite ?_ ?_)
   | (with_reducible refine LeO.bind ?_ (fun _ => ?_))
   | exact ih0 _ _ _ _ _ _
   | exact ih1 _ _ _ _ _
   | exact ih2 _ _ _ _ _ _ _ _ _
   | exact spec_boCount.mono _ _ _
   | exact spec_boNumber.mono _ _ _ _
   | exact spec_boPut.mono _ _ _ _ _ _
   | exact spec_boSlides.mono _ _ _ _
   | exact LeO.none _
   | refine LeO.ite ?_ ?_
   | refine LeO.bind ?_ (fun _ => ?_)
theorem spec_boFar.mono : ∀ a0 a1 a2 k, LeO (spec_boFar.f k a0 a1 a2) (spec_boFar.f (k + 1) a0 a1 a2) := by
 intro a0 a1 a2 k
 obtain ⟨ih0, ih1, ih2⟩ := spec_boFar.mono_l k
 unfold spec_boFar.f
 repeat' first
   | (with_reducible exact ih0 _ _ _ _ _ _)
   | (with_reducible exact ih1 _ _ _ _ _)
   | (with_reducible exact ih2 _ _ _ _ _ _ _ _ _)
   | (with_reducible exact spec_boCount.mono _ _ _)
   | (with_reducible exact spec_boNumber.mono _ _ _ _)
   | (with_reducible exact spec_boPut.mono _ _ _ _ _ _)
   | (with_reducible exact spec_boSlides.mono _ _ _ _)
   | (with_reducible exact LeO.refl _)
   | (with_reducible exact LeO.none _)
   | (with_reducible refine LeO.ite ?_ ?_)
   | (with_reducible refine LeO.bind ?_ (fun _ => ?_))
   | exact ih0 _ _ _ _ _ _
   | exact ih1 _ _ _ _ _
   | exact ih2 _ _ _ _ _ _ _ _ _
   | exact spec_boCount.mono _ _ _
   | exact spec_boNumber.mono _ _ _ _
   | exact spec_boPut.mono _ _ _ _ _ _
   | exact spec_boSlides.mono _ _ _ _
   | exact LeO.none _
   | refine LeO.ite ?_ ?_
   | refine LeO.bind ?_ (fun _ => ?_)
def spec_boFar.T12 : Bool × List (List Nat × List Nat) := (true, [([], []), ([], []), ([], []), ([], []), ([2, 3], [2, 3]), ([4], [4]), ([1, 5], [1, 5]), ([0, 6], [0, 6]), ([7], [7]), ([8, 6, 0, 1, 2, 3, 4, 5, 6, 7, 8], [8])])
def spec_boFar.B12 : List Nat := [0, 0, 0, 0, 12, 28, 62, 127, 255, 511]
theorem spec_boFar.tab12 : rtab .any (opsOf Try.f22 12) = spec_boFar.T12 := by kernel_rfl
theorem spec_boFar.bits12 : waitsOk spec_boFar.T12.2 spec_boFar.B12 = true := by kernel_rfl
def spec_boFar.T13 : Bool × List (List Nat × List Nat) := (true, [([], []), ([], []), ([], []), ([1, 2], [1, 2]), ([3], [3]), ([0, 4], [0, 4]), ([5], [5]), ([], [])])
def spec_boFar.B13 : List Nat := [0, 0, 0, 6, 14, 31, 63, 0]
theorem spec_boFar.tab13 : rtab .any (opsOf Try.f22 13) = spec_boFar.T13 := by kernel_rfl
theorem spec_boFar.bits13 : waitsOk spec_boFar.T13.2 spec_boFar.B13 = true := by kernel_rfl
def spec_boFar.T16 : Bool × List (List Nat × List Nat) := (true, [([], []), ([], []), ([], []), ([1, 2], [1, 2]), ([3], [3]), ([], []), ([0, 4, 5], [0, 4, 5]), ([6], [6]), ([7], [7]), ([7], [7]), ([8, 6, 0, 1, 2, 3, 4, 5, 6, 7, 8], [8]), ([9, 10, 0, 1, 2, 3, 4, 5, 6, 7, 8, 9, 10], [9])])
def spec_boFar.B16 : List Nat := [0, 0, 0, 6, 14, 0, 63, 127, 255, 255, 511, 2047]
theorem spec_boFar.tab16 : rtab .any (opsOf Try.f22 16) = spec_boFar.T16 := by kernel_rfl
theorem spec_boFar.bits16 : waitsOk spec_boFar.T16.2 spec_boFar.B16 = true := by kernel_rfl
set_option maxHeartbeats 8000000 in
set_option maxRecDepth 100000 in
theorem spec_boFar.calls (k : Nat) (A0_0 : Option Addr) (c0_0 : Nat) (l0_0 : List Int) (A0_1 : Option Addr) (c0_1 : Nat) (l0_1 : List (S77)) (a1 : ByteArray) (r1 : List Int) (r2 : List ByteArray) (w : World) (hr0_0 : Kd.C (Kd.int .i64) w A0_0 l0_0.length l0_0) (hc0_0 : l0_0.length ≤ c0_0) (hr0_1 : Kd.C k77 w A0_1 l0_1.length l0_1) (hc0_1 : l0_1.length ≤ c0_1) (h : spec_boFar.f k l0_0 l0_1 a1 = some (r1, r2)) :
  Calls Try.prog 22 #[.agg #[.slice A0_0 l0_0.length c0_0, .slice A0_1 l0_1.length c0_1], .string a1] w fun e w' => ∃ v0_ v1_ : Value, e = .returned (.tuple #[v0_, v1_]) ∧ Kd.R (Kd.int .i64) 3 w' w.heap.size (fun _ => True) v0_ r1 ∧ Kd.R Kd.string 9 w' w.heap.size (fun _ => True) v1_ r2 ∧ Below w.heap.size w w' := by
 have hu31 := Try.underlying31
 have hu62 := Try.underlying62
 have HR0_0 := aM hr0_0
 have HC0_0 := aM hc0_0
 clear hr0_0 hc0_0
 have HR0_1 := aM hr0_1
 have HC0_1 := aM hc0_1
 clear hr0_1 hc0_1
 have HB := aM (Below.refl w.heap.size w)
 have H : ((spec_boCount.f k l0_0 l0_1).bind fun t160 => (if 0 ≤ t160 then (if (t160 : Int).toNat ≤ 35184372088832 then ((some (List.replicate (t160 : Int).toNat 0 : List Int)).bind fun y161 => (spec_boFar.l0 k a1 y161 (y161.length : Int) 0 l0_0 l0_1)) else (none)) else (none))) = some (r1, r2) := h
 clear h
 replace H := Option.bind_eq_some_iff.mp H
 obtain ⟨t160, A30, H⟩ := H
 replace H : (if 0 ≤ t160 then (if (t160 : Int).toNat ≤ 35184372088832 then ((some (List.replicate (t160 : Int).toNat 0 : List Int)).bind fun y161 => (spec_boFar.l0 k a1 y161 (y161.length : Int) 0 l0_0 l0_1)) else (none)) else (none)) = some (r1, r2) := H
 have A3 := aM A30
 clear A30
 by_cases c4 : 0 ≤ t160
 ·rw [if_pos c4] at H
  have c4b0 := eq_true c4
  have c4b1 : decide (0 ≤ t160) = true := decide_eq_true c4
  clear c4
  by_cases c5 : (t160 : Int).toNat ≤ 35184372088832
  ·rw [if_pos c5] at H
   have c5b0 := eq_true c5
   have c5b1 : decide ((t160 : Int).toNat ≤ 35184372088832) = true := decide_eq_true c5
   clear c5
   obtain ⟨y161, hy161⟩ : ∃ y_ : List Int, y_ = (List.replicate (t160 : Int).toNat 0) := ⟨_, rfl⟩
   replace H : (spec_boFar.l0 k a1 y161 (y161.length : Int) 0 l0_0 l0_1) = some (r1, r2) := by first | (rw [hy161]; with_reducible exact H) | (have H2_ := (Option.bind_some _ _).symm.trans H; rw [hy161]; with_reducible exact H2_) | (have H2_ := (Option.bind_some _ _).symm.trans H; with_reducible exact H2_) | with_reducible exact H | (rw [hy161]; exact H) | exact H
   have Ny161 := aM hy161
   clear hy161
   have H' := aM H
   clear H
   go_enter Try.func22, Try.ntmps22
   go_wp2_with (first | ((with_reducible refine gate_dst (N := 2) rfl ?_); refine box_event ?hg (N := 2) ?hd (cs := #[.slice A0_0 l0_0.length c0_0, .slice A0_1 l0_1.length c0_1]) (t := 31) ?hr ?_; (case hd => rfl); (case hg => rfl); (case hr => go_simp); intro gb159 hg w6 hbox hb; have BK159 := aM (hbox); have GW159 := aM ((by rw [hg]; exact (below_size HB.out) : w.heap.size ≤ gb159)); replace HB := aM (below_step HB.out hb); have GE159 := GW159; clear hb hbox hg; have hcz7_0 : w6.cell? ⟨gb159, 0, none⟩ = some (.slice A0_0 l0_0.length c0_0) := (blk_cell BK159.out 0).trans rfl; have hcz7_1 : w6.cell? ⟨gb159, 1, none⟩ = some (.slice A0_1 l0_1.length c0_1) := (blk_cell BK159.out 1).trans rfl; have hfz7_0 := blk_frozen BK159.out 0; have hfz7_1 := blk_frozen BK159.out 1) | ((with_reducible refine gate_callee (f := 19) rfl ?_); refine goesL_ (some 17) rfl rfl Try.func19 (by kernel_rfl) rfl #[.agg #[.slice A0_0 l0_0.length c0_0, .slice A0_1 l0_1.length c0_1]] rfl (by simp only [mA, mB, mC]; all_goals rfl) ?_; (with_reducible refine (spec_boCount.calls k _ _ l0_0 _ _ l0_1 t160 _ ?side1 ?side2 ?side3 ?side4 A3.out).mono ?_); (case side1 => exact Kd.C_below HR0_0.out HB.out); (case side2 => exact HC0_0.out); (case side3 => exact Kd.C_below HR0_1.out HB.out); (case side4 => exact HC0_1.out); rintro e w8 ⟨rfl, hb⟩; refine ⟨_, rfl, ?_⟩; replace BK159 := aM (blk_below (g := gb159) (o := .cells #[.slice A0_0 l0_0.length c0_0, .slice A0_1 l0_1.length c0_1] 31 (0, 0)) BK159.out hb); replace HB := aM (below_step HB.out hb); (try clear hb)) | ((with_reducible refine gate_dst (N := 18) rfl ?_); refine Kd.R_make (Kd.int .i64) _ 3 rfl (N := 18) rfl 22 _ _ rfl t160 rfl rfl Try.underlying22 (.int .i64 0) 8 info3 rfl (by decide) (by omega) 0 (ok := fun _ => True) (okp := fun _ => True) rfl (fun _ hk => hk) trivial (oT (by assumption)) (Nat.le_trans (Nat.mul_le_mul_right _ (oT (by assumption) : t160.toNat ≤ 35184372088832)) (by omega)) (Below.refl _ _) (Nat.le_refl _) ?_; intro v162 w9 ho10 hb hg_ hnew_; clear hg_ hnew_; rw [← Ny161.out] at ho10; have HO163 := aM (Kd.R_lower ho10 (below_size HB.out)); replace BK159 := aM (blk_below (g := gb159) (o := .cells #[.slice A0_0 l0_0.length c0_0, .slice A0_1 l0_1.length c0_1] 31 (0, 0)) BK159.out hb); replace HB := aM (below_step HB.out hb); clear hb ho10; obtain ⟨Ao11, co11, eo11⟩ := Kd.R_slice HO163.out; subst eo11))
   go_loopg [21] k (fun kq v21 w' => ∃ (x6_1 : List Int) (x21_1 : Int), v21 = .int .i64 x21_1 ∧ Aside0 (spec_boFar.l0 kq a1 x6_1 (y161.length : Int) x21_1 l0_0 l0_1 = some (r1, r2)) ∧ Aside0 (kq ≤ k) ∧ Aside0 (Kd.R (Kd.int .i64) 3 w' w.heap.size (fun _ => True) (.slice Ao11 y161.length co11) x6_1) ∧ Aside0 (w'.heap[gb159]? = some (.cells #[(.slice A0_0 l0_0.length c0_0), (.slice A0_1 l0_1.length c0_1)] 31 (0, 0))) ∧ Aside0 (Below w.heap.size w w'))
   case atStart => exact ⟨(y161), (0), rfl, H', ⟨Nat.le_refl _⟩, HO163, BK159, HB⟩
   case round =>
    clear H'
    try clear c1
    try clear c2
    try clear p2
    try clear c4
    try clear c4b0
    try clear c4b1
    try clear c5
    try clear c5b0
    try clear c5b1
    try clear hcz7_0
    try clear hcz7_1
    try clear hfz7_0
    try clear hfz7_1
    obtain ⟨x6_1, x21_1, rfl, HA, HK1, HO_6, BK159, HB⟩ := hrel
    have hl6_1 := (Kd.R_reads' HO_6.out).1
    rw [hl6_1] at HO_6
    (try simp only [hl6_1])
    (try simp only [hl6_1] at BK159)
    cases gk with
    | zero => exact absurd HA.out (by simp [spec_boFar.l0])
    | succ k1 =>
     have H := HA.out
     clear HA
     simp only [spec_boFar.l0] at H
     by_cases c12 : x21_1 < (y161.length : Int)
     ·rw [if_pos c12] at H
      have c12b0 : decide (x21_1 < (y161.length : Int)) = true := decide_eq_true c12
      (try (have c12m0 := c12b0; simp only [hl6_1] at c12m0))
      clear c12
      by_cases c13 : 0 ≤ x21_1
      ·rw [if_pos c13] at H
       have c13b0 : decide (0 ≤ x21_1) = true := decide_eq_true c13
       clear c13
       by_cases c14 : x21_1 < (x6_1.length : Int)
       ·rw [if_pos c14] at H
        have c14b0 : decide (x21_1 < (x6_1.length : Int)) = true := decide_eq_true c14
        (try (have c14m0 := c14b0; simp only [hl6_1] at c14m0))
        clear c14
        obtain ⟨y164, hy164⟩ : ∃ y_ : List Int, y_ = (x6_1.set (x21_1 : Int).toNat (-1)) := ⟨_, rfl⟩
        replace H : (spec_boFar.l0 k1 a1 y164 (y161.length : Int) (wrap64 (x21_1 + 1)) l0_0 l0_1) = some (r1, r2) := by first | (rw [hy164]; with_reducible exact H) | (have H2_ := (Option.bind_some _ _).symm.trans H; rw [hy164]; with_reducible exact H2_) | (have H2_ := (Option.bind_some _ _).symm.trans H; with_reducible exact H2_) | with_reducible exact H | (rw [hy164]; exact H) | exact H
        have Ny164 := aM hy164
        clear hy164
        have H' := aM H
        clear H
        have p15 : 0 ≤ (x21_1 : Int) := oT (by assumption)
        have q15 : (x21_1 : Int) < ((x6_1.length : Int) : Int) := oT (by assumption)
        obtain ⟨go15, co15, eo15, gb15, gl15, cl15, HG15⟩ := Kd.R_form HO_6.out (by omega)
        (first | cases eo15 | (injection eo15 with ea_ en_ ec_; (first | subst ea_ | (injection ea_ with ea_; subst ea_)); subst ec_; clear en_))
        have GB15 := aM gb15
        have GG15 := aM HG15
        clear gb15 gl15 HG15
        obtain ⟨hx15_0, hf15_0⟩ := Kd.R_celln 0 HO_6.out (x21_1 : Int) p15 q15
        replace p15 := eq_true p15
        replace q15 := eq_true q15
        have HP16 := Kd.R_putg HO_6.out (x21_1 : Int) (-1)
        go_wp2_with (first | ((with_reducible refine gate_store (t := 3) (p := 26) rfl ?_); refine store_event (t := 3) (p := 26) (v := ?vo_w17) (w1 := (wr.setCell ⟨go15, (x21_1 : Int).toNat, none⟩ (.int .i64 (-1)))) ?hg ?ho ?hn ?hr ?_; (case ho => rfl); (case hg => rfl); (case hn => rfl); (case hr => go_simp); intro w17 hw; have hg : wr.grownBy w17 (some go15) := (by rw [hw]; exact HP16.2); have hp_ : Kd.R (Kd.int .i64) 3 w17 w.heap.size (fun _ => True) (.slice (some ⟨go15, 0, none⟩) x6_1.length co11) y164 := (by rw [hw, Ny164.out]; exact HP16.1); clear HP16; replace BK159 := aM (blk_grown (g := gb159) (o := .cells #[.slice A0_0 l0_0.length c0_0, .slice A0_1 l0_1.length c0_1] 31 (0, 0)) BK159.out hg (Kd.R_ne HO_6.out BK159.out (by decide))); replace HO_6 := aM (hp_); replace HB := aM ((by rw [hw]; exact below_set (HB.out) GB15.out : Below w.heap.size w w17)); clear hg hw hp_))
        (try simp only [← hl6_1])
        go_roundg k1
        case measure => have := HK1.out; omega
        case rel => exact ⟨(y164), (wrap64 (x21_1 + 1)), rfl, H', ⟨by have := HK1.out; omega⟩, ⟨by (try simp only [hl6_1]); (with_reducible repeat (first | apply rA | apply rN | apply rD)); exact HO_6.out⟩, ⟨by (try simp only [hl6_1]); (with_reducible repeat (first | refine kN ?_ _ | refine kD ?_ | refine kA ?_ _)); exact BK159.out⟩, ⟨by repeat first | exact HB.out | apply bA | apply bN | apply bD | refine bS ?_ GE159.out⟩⟩
       ·rw [if_neg c14] at H
        exact absurd H (by simp)
      ·rw [if_neg c13] at H
       exact absurd H (by simp)
     ·rw [if_neg c12] at H
      have c12b0 : decide (x21_1 < (y161.length : Int)) = false := decide_eq_false c12
      (try (have c12m0 := c12b0; simp only [hl6_1] at c12m0))
      clear c12
      replace H := Option.bind_eq_some_iff.mp H
      obtain ⟨t165, A180, H⟩ := H
      replace H : (if 0 ≤ t165 then (if t165 < (x6_1.length : Int) then (spec_boFar.l1 k1 (x6_1.set (t165 : Int).toNat 0) (([a1] : List ByteArray)) 0 l0_0 l0_1) else (none)) else (none)) = some (r1, r2) := H
      have A18 := aM A180
      clear A180
      by_cases c19 : 0 ≤ t165
      ·rw [if_pos c19] at H
       have c19b0 : decide (0 ≤ t165) = true := decide_eq_true c19
       clear c19
       by_cases c20 : t165 < (x6_1.length : Int)
       ·rw [if_pos c20] at H
        have c20b0 : decide (t165 < (x6_1.length : Int)) = true := decide_eq_true c20
        (try (have c20m0 := c20b0; simp only [hl6_1] at c20m0))
        clear c20
        obtain ⟨y166, hy166⟩ : ∃ y_ : List Int, y_ = (x6_1.set (t165 : Int).toNat 0) := ⟨_, rfl⟩
        replace H : (spec_boFar.l1 k1 y166 (([a1] : List ByteArray)) 0 l0_0 l0_1) = some (r1, r2) := by first | (rw [hy166]; with_reducible exact H) | (have H2_ := (Option.bind_some _ _).symm.trans H; rw [hy166]; with_reducible exact H2_) | (have H2_ := (Option.bind_some _ _).symm.trans H; with_reducible exact H2_) | with_reducible exact H | (rw [hy166]; exact H) | exact H
        have Ny166 := aM hy166
        clear hy166
        obtain ⟨y167, hy167⟩ : ∃ y_ : List ByteArray, y_ = (([a1] : List ByteArray)) := ⟨_, rfl⟩
        replace H : (spec_boFar.l1 k1 y166 y167 0 l0_0 l0_1) = some (r1, r2) := by first | (rw [hy167]; with_reducible exact H) | (have H2_ := (Option.bind_some _ _).symm.trans H; rw [hy167]; with_reducible exact H2_) | (have H2_ := (Option.bind_some _ _).symm.trans H; with_reducible exact H2_) | with_reducible exact H | (rw [hy167]; exact H) | exact H
        have Ny167 := aM hy167
        clear hy167
        have H' := aM H
        clear H
        have hcz22_0 : wr.cell? ⟨gb159, 0, none⟩ = some (.slice A0_0 l0_0.length c0_0) := (blk_cell BK159.out 0).trans rfl
        have hcz22_1 : wr.cell? ⟨gb159, 1, none⟩ = some (.slice A0_1 l0_1.length c0_1) := (blk_cell BK159.out 1).trans rfl
        have hfz22_0 := blk_frozen BK159.out 0
        have hfz22_1 := blk_frozen BK159.out 1
        go_wp2_with (first | ((with_reducible refine gate_callee (f := 21) rfl ?_); refine goesL_ (some 31) rfl rfl Try.func21 (by kernel_rfl) rfl #[.agg #[.slice A0_0 l0_0.length c0_0, .slice A0_1 l0_1.length c0_1], .string a1] rfl (by simp only [mA, mB, mC]; all_goals rfl) ?_; (with_reducible refine (spec_boNumber.calls k1 _ _ l0_0 _ _ l0_1 a1 t165 _ ?side1 ?side2 ?side3 ?side4 A18.out).mono ?_); (case side1 => exact Kd.C_below HR0_0.out HB.out); (case side2 => exact HC0_0.out); (case side3 => exact Kd.C_below HR0_1.out HB.out); (case side4 => exact HC0_1.out); rintro e w23 ⟨rfl, hb⟩; refine ⟨_, rfl, ?_⟩; replace HO_6 := aM (Kd.R_below HO_6.out hb); replace BK159 := aM (blk_below (g := gb159) (o := .cells #[.slice A0_0 l0_0.length c0_0, .slice A0_1 l0_1.length c0_1] 31 (0, 0)) BK159.out hb); replace HB := aM (below_step HB.out hb); (try clear hb); have p21 : 0 ≤ (t165 : Int) := oT (by assumption); have q21 : (t165 : Int) < ((x6_1.length : Int) : Int) := oT (by assumption); obtain ⟨go21, co21, eo21, gb21, gl21, cl21, HG21⟩ := Kd.R_form HO_6.out (by omega); (first | cases eo21 | (injection eo21 with ea_ en_ ec_; (first | subst ea_ | (injection ea_ with ea_; subst ea_)); subst ec_; clear en_)); have GB21 := aM gb21; have GG21 := aM HG21; clear gb21 gl21 HG21; obtain ⟨hx21_0, hf21_0⟩ := Kd.R_celln 0 HO_6.out (t165 : Int) p21 q21; replace p21 := eq_true p21; replace q21 := eq_true q21; obtain ⟨hy24_, hz24_⟩ := Kd.R_celln 0 HO_6.out (t165 : Int) (oT (by assumption)) (oT (by assumption)); have HP24 := Kd.R_putg HO_6.out (t165 : Int) 0) | ((with_reducible refine gate_store (t := 3) (p := 32) rfl ?_); refine store_event (t := 3) (p := 32) (v := ?vo_w25) (w1 := (w23.setCell ⟨go21, (t165 : Int).toNat, none⟩ (.int .i64 0))) ?hg ?ho ?hn ?hr ?_; (case ho => rfl); (case hg => rfl); (case hn => rfl); (case hr => go_simp); intro w25 hw; have hg : w23.grownBy w25 (some go21) := (by rw [hw]; exact HP24.2); have hp_ : Kd.R (Kd.int .i64) 3 w25 w.heap.size (fun _ => True) (.slice (some ⟨go21, 0, none⟩) x6_1.length co11) y166 := (by rw [hw, Ny166.out]; exact HP24.1); clear HP24; replace BK159 := aM (blk_grown (g := gb159) (o := .cells #[.slice A0_0 l0_0.length c0_0, .slice A0_1 l0_1.length c0_1] 31 (0, 0)) BK159.out hg (Kd.R_ne HO_6.out BK159.out (by decide))); replace HO_6 := aM (hp_); replace HB := aM ((by rw [hw]; exact below_set (HB.out) GB21.out : Below w.heap.size w w25)); clear hg hw hp_) | ((with_reducible refine gate_dst (N := 34) rfl ?_); refine Kd.R_lit Kd.string _ 9 ?hg (N := 34) ?hd (xs := ([a1] : List ByteArray)) (inner := [.string a1]) (ok := fun _ => True) (okp := fun _ => True) ?hr ?hp (fun _ hk => hk) trivial (Below.refl _ _) (Nat.le_refl _) (by simp) ?_; (case hd => rfl); (case hg => rfl); (case hr => go_simp); (case hp => exact (Reps.one (show Kd.M Kd.string _ _ _ a1 [.string a1] from rfl) (Reps.none _ _))); intro v168 w26 ho27 hb hg_ hnew_; clear hg_ hnew_; rw [← Ny167.out] at ho27; replace HO_6 := aM (Kd.R_below HO_6.out hb); have HO169 := aM (Kd.R_lower ho27 (below_size HB.out)); replace BK159 := aM (blk_below (g := gb159) (o := .cells #[.slice A0_0 l0_0.length c0_0, .slice A0_1 l0_1.length c0_1] 31 (0, 0)) BK159.out hb); replace HB := aM (below_step HB.out hb); clear hb ho27))
        go_loopg [8, 9] k1 (fun kq v8 v9 w' => ∃ (x6_2 : List Int) (x8_2 : List ByteArray) (x9_2 : Int), v9 = .int .i64 x9_2 ∧ Aside0 (spec_boFar.l1 kq x6_2 x8_2 x9_2 l0_0 l0_1 = some (r1, r2)) ∧ Aside0 (kq ≤ k1) ∧ Aside0 (Kd.R (Kd.int .i64) 3 w' w.heap.size (fun _ => True) (.slice (some ⟨go21, 0, none⟩) x6_1.length co11) x6_2) ∧ Aside0 (Kd.R Kd.string 9 w' w.heap.size (fun _ => True) v8 x8_2) ∧ Aside0 (w'.heap[gb159]? = some (.cells #[(.slice A0_0 l0_0.length c0_0), (.slice A0_1 l0_1.length c0_1)] 31 (0, 0))) ∧ Aside0 (Below w.heap.size w w'))
        case atStart => exact ⟨(y166), (y167), (0), rfl, H', ⟨Nat.le_refl _⟩, HO_6, HO169, ⟨by (try simp only [hl6_1]); (with_reducible repeat (first | refine kN ?_ _ | refine kD ?_ | refine kA ?_ _)); exact BK159.out⟩, HB⟩
        case round =>
         clear H'
         try clear c1
         try clear p1
         try clear q1
         try clear hx1
         try clear c2
         try clear p2
         try clear q2
         try clear hx2
         try clear hf2
         try clear c4
         try clear c4b0
         try clear c4b1
         try clear c5
         try clear c5b0
         try clear c5b1
         try clear p6
         try clear c12
         try clear c12b0
         try clear c13
         try clear c13b0
         try clear c14
         try clear c14b0
         try clear p15
         try clear q15
         try clear hx15
         try clear hf15
         try clear c19
         try clear c19b0
         try clear c20
         try clear c20b0
         try clear c21
         try clear p21
         try clear q21
         try clear hx21
         try clear hf21
         try clear c22
         try clear hcz22_0
         try clear hcz22_1
         try clear hcz7_0
         try clear hcz7_1
         try clear hfz22_0
         try clear hfz22_1
         try clear hfz7_0
         try clear hfz7_1
         try clear hx15_0
         try clear hx21_0
         try clear p15
         try clear p2
         try clear p21
         try clear q15
         try clear q21
         obtain ⟨x6_2, x8_2, x9_2, rfl, HA, HK2, HO_6, HO_8, BK159, HB⟩ := hrel
         have hl6_2 := (Kd.R_reads' HO_6.out).1
         rw [hl6_2] at HO_6
         (try simp only [hl6_2])
         (try simp only [hl6_2] at BK159)
         (try simp only [hl6_2] at HO_8)
         cases gk with
         | zero => exact absurd HA.out (by simp [spec_boFar.l1])
         | succ k2 =>
          have H := HA.out
          clear HA
          simp only [spec_boFar.l1] at H
          by_cases c28 : x9_2 < (x8_2.length : Int)
          ·rw [if_pos c28] at H
           have c28b0 : decide (x9_2 < (x8_2.length : Int)) = true := decide_eq_true c28
           (try (have c28m0 := c28b0; simp only [hl6_1] at c28m0)); (try (have c28m1 := c28b0; simp only [hl6_2] at c28m1))
           clear c28
           by_cases c29 : 0 ≤ x9_2
           ·rw [if_pos c29] at H
            have c29b0 : decide (0 ≤ x9_2) = true := decide_eq_true c29
            clear c29
            replace H := Option.bind_eq_some_iff.mp H
            obtain ⟨t171, A300, H⟩ := H
            replace H : (if 0 ≤ t171 then (if t171 < (x6_2.length : Int) then ((spec_boSlides.f k2 l0_0 l0_1 (rdOf ByteArray.empty x8_2 x9_2)).bind fun t174 => (spec_boFar.l2 k2 x6_2 x8_2 x9_2 (rd x6_2 t171) t174 (t174.length : Int) 0 l0_0 l0_1)) else (none)) else (none)) = some (r1, r2) := H
            have A30 := aM A300
            clear A300
            by_cases c31 : 0 ≤ t171
            ·rw [if_pos c31] at H
             have c31b0 : decide (0 ≤ t171) = true := decide_eq_true c31
             clear c31
             by_cases c32 : t171 < (x6_2.length : Int)
             ·rw [if_pos c32] at H
              have c32b0 : decide (t171 < (x6_2.length : Int)) = true := decide_eq_true c32
              (try (have c32m0 := c32b0; simp only [hl6_1] at c32m0)); (try (have c32m1 := c32b0; simp only [hl6_2] at c32m1))
              clear c32
              replace H := Option.bind_eq_some_iff.mp H
              obtain ⟨t174, A330, H⟩ := H
              replace H : (spec_boFar.l2 k2 x6_2 x8_2 x9_2 (rd x6_2 t171) t174 (t174.length : Int) 0 l0_0 l0_1) = some (r1, r2) := H
              have A33 := aM A330
              clear A330
              have H' := aM H
              clear H
              obtain ⟨Ao34, co34, eo34⟩ := Kd.R_slice HO_8.out
              subst eo34
              try go_wp2
              have n0_ := aM (Kd.R_drew HO_6.out)
              have n1_ := aM (Kd.R_drew HO_8.out)
              have n2_ := aM (blk_drew BK159.out)
              have n3_ := aM (below_drew1 HB.out)
              clear HO_6 HO_8 BK159 HB
              have HO_6 := n0_
              have HO_8 := n1_
              have BK159 := n2_
              have HB := n3_
              clear n0_ n1_ n2_ n3_
              have p170 : 0 ≤ (x9_2 : Int) := oT (by assumption)
              have q170 : x9_2 < (x8_2.length : Int) := oT (by assumption)
              obtain ⟨ad170, e170, hx170_0⟩ := Kd.at_string (Kd.R_reads' HO_8.out).2.2 x9_2 p170 q170
              cases e170
              replace p170 := eq_true p170
              replace q170 := eq_true q170
              have p172 : 0 ≤ (t171 : Int) := oT (by assumption)
              have q172 : t171 < (x6_2.length : Int) := oT (by assumption)
              obtain ⟨ad172, e172, hx172_0⟩ := Kd.at_int (Kd.R_reads' HO_6.out).2.2 t171 p172 q172
              obtain rfl : (⟨go21, 0, none⟩ : Addr) = ad172 := (by injection e172)
              (first | simp only [add_plain] at hx172_0 | simp only [add_at] at hx172_0 | simp only [Addr.add, Nat.zero_add] at hx172_0 | skip)
              replace p172 := eq_true p172
              replace q172 := eq_true q172
              refine start_ (n := 10) (S := fun w' => w'.cell? ⟨gb159, 0, none⟩ = some (.slice A0_0 l0_0.length c0_0) ∧ w'.cell? ⟨gb159, 1, none⟩ = some (.slice A0_1 l0_1.length c0_1) ∧ w'.cell? (ad170.add (x9_2).toNat) = some (.string (rdOf ByteArray.empty x8_2 x9_2)) ∧ w'.cell? ⟨go21, (t171).toNat, none⟩ = some (.int .i64 (rd x6_2 t171))) (ds := []) #[F,F,F,F,F,F,F,F,F,F] (by kernel_rfl) rfl rfl ⟨(blk_cell BK159.out 0).trans rfl, (blk_cell BK159.out 1).trans rfl, hx170_0, hx172_0⟩ (fun hHeld => ?_); refine with_tabW spec_boFar.tab12 spec_boFar.bits12 (fun HT_ HW_ => ?_)
              generalize wr.drew = w35 at HO_6 HO_8 BK159 HB hx170_0 hx172_0 hHeld ⊢
              refine pure_ (i := 0) (N := some 41) (v := ?_) (a' := ?_) #[T,F,F,F,F,F,F,F,F,F] rfl rfl (any_of HT_.out (by kernel_rfl)) (fun _ _ _ h => h) (Or.inl ⟨by rfl, ?_⟩) ?_ ?_; rotate_left; (next => intro w'; go_simp; with_reducible rfl); rotate_left; next => simp only [Act.put, sA, sB, sC, i64_w, i32_w]; rfl
              refine pure_ (i := 2) (N := some 43) (v := ?_) (a' := ?_) #[T,F,T,F,F,F,F,F,F,F] rfl rfl (any_of HT_.out (by kernel_rfl)) (fun _ _ _ h => h) (Or.inl ⟨by rfl, ?_⟩) ?_ ?_; rotate_left; (next => intro w'; go_simp; with_reducible rfl); rotate_left; next => simp only [Act.put, sA, sB, sC, i64_w, i32_w]; rfl
              refine pure_ (i := 3) (N := some 44) (v := ?_) (a' := ?_) #[T,F,T,T,F,F,F,F,F,F] rfl rfl (any_of HT_.out (by kernel_rfl)) (fun _ _ _ h => h) (Or.inl ⟨by rfl, ?_⟩) ?_ ?_; rotate_left; (next => intro w'; go_simp; with_reducible rfl); rotate_left; next => simp only [Act.put, sA, sB, sC, i64_w, i32_w]; rfl
              refine pure_ (i := 4) (N := some 45) (v := ?_) (a' := ?_) #[T,F,T,T,T,F,F,F,F,F] rfl rfl (any_of HT_.out (by kernel_rfl)) (fun _ _ _ h => h) (Or.inl ⟨by rfl, ?_⟩) ?_ ?_; rotate_left; (next => intro w'; go_simp; with_reducible rfl); rotate_left; next => simp only [Act.put, sA, sB, sC, i64_w, i32_w]; rfl
              refine take_ (i := 1) (N := some 42) (v := ?_) (a' := ?_) #[T,T,T,T,T,F,F,F,F,F] rfl rfl (take_ofW HT_.out HW_.out (by kernel_rfl)) (fun _ _ _ h => h) (Or.inl ⟨by rfl, ?_⟩) hHeld ?_ ?_
              rotate_left
              ·rintro w' ⟨s0, s1, s2, s3⟩
               go_simp
               with_reducible rfl
              rotate_left
              ·simp only [Act.put, sA, sB, sC, i64_w, i32_w]
               rfl
              refine take_ (i := 5) (N := some 46) (v := ?_) (a' := ?_) #[T,T,T,T,T,T,F,F,F,F] rfl rfl (take_ofW HT_.out HW_.out (by kernel_rfl)) (fun _ _ _ h => h) (Or.inl ⟨by rfl, ?_⟩) hHeld ?_ ?_
              rotate_left
              ·rintro w' ⟨s0, s1, s2, s3⟩
               go_simp
               with_reducible rfl
              rotate_left
              ·simp only [Act.put, sA, sB, sC, i64_w, i32_w]
               rfl
              refine one_ (i := 6) (N := some 47) #[T,T,T,T,T,T,T,F,F,F] rfl rfl (one_of HT_.out (by kernel_rfl)) (by decide) (fun K hK => ?_)
              refine goes_ Try.func21 (by kernel_rfl) rfl #[.agg #[.slice A0_0 l0_0.length c0_0, .slice A0_1 l0_1.length c0_1], .string (rdOf ByteArray.empty x8_2 x9_2)] (by rfl) rfl rfl (by simp only [mA, mB, mC]; all_goals rfl) ?_
              with_reducible refine (spec_boNumber.calls k2 _ _ l0_0 _ _ l0_1 (rdOf ByteArray.empty x8_2 x9_2) t171 _ ?side1 ?side2 ?side3 ?side4 A30.out).mono ?_
              (case side1 => exact Kd.C_below HR0_0.out HB.out)
              (case side2 => exact HC0_0.out)
              (case side3 => exact Kd.C_below HR0_1.out HB.out)
              (case side4 => exact HC0_1.out)
              rintro e w36 ⟨rfl, hb⟩
              have HS2_ := (hb.cell (World.block_lt_of_cell? _ _ (hHeld.2.2.1))).trans (hHeld.2.2.1)
              have HS3_ := (hb.cell (World.block_lt_of_cell? _ _ (hHeld.2.2.2))).trans (hHeld.2.2.2)
              refine ⟨_, rfl, ?_⟩
              have n0_ := aM (Kd.R_below HO_6.out hb)
              have n1_ := aM (Kd.R_below HO_8.out hb)
              have n2_ := aM (blk_below (g := gb159) (o := .cells #[.slice A0_0 l0_0.length c0_0, .slice A0_1 l0_1.length c0_1] 31 (0, 0)) BK159.out hb)
              have n3_ := aM (below_step HB.out hb)
              clear HO_6 HO_8 BK159 HB
              have HO_6 := n0_
              have HO_8 := n1_
              have BK159 := n2_
              have HB := n3_
              clear n0_ n1_ n2_ n3_
              (try clear hb)
              (try clear hb2)
              (try clear hk)
              (try clear hi)
              refine hK.out _ _ ⟨(blk_cell BK159.out 0).trans rfl, (blk_cell BK159.out 1).trans rfl, HS2_, HS3_⟩ (fun hHeld => ?_)
              clear hK K
              refine norm_ (a' := ?_) ?_ ?_
              rotate_left
              ·show Act.put _ (some 47) _ = _
               simp only [Act.put, sA, sB, sC, i64_w, i32_w]
               rfl
              refine pure_ (i := 7) (N := some 48) (v := ?_) (a' := ?_) #[T,T,T,T,T,T,T,T,F,F] rfl rfl (any_of HT_.out (by kernel_rfl)) (fun _ _ _ h => h) (Or.inl ⟨by rfl, ?_⟩) ?_ ?_; rotate_left; (next => intro w'; go_simp; with_reducible rfl); rotate_left; next => simp only [Act.put, sA, sB, sC, i64_w, i32_w]; rfl
              refine take_ (i := 8) (N := some 49) (v := ?_) (a' := ?_) #[T,T,T,T,T,T,T,T,T,F] rfl rfl (take_ofW HT_.out HW_.out (by kernel_rfl)) (fun _ _ _ h => h) (Or.inl ⟨by rfl, ?_⟩) hHeld ?_ ?_
              rotate_left
              ·rintro w' ⟨s0, s1, s2, s3⟩
               go_simp
               with_reducible rfl
              rotate_left
              ·simp only [Act.put, sA, sB, sC, i64_w, i32_w]
               rfl
              refine pure_ (i := 9) (N := some 10) (v := ?_) (a' := ?_) #[T,T,T,T,T,T,T,T,T,T] rfl rfl (any_of HT_.out (by kernel_rfl)) (fun _ _ _ h => h) (Or.inl ⟨by rfl, ?_⟩) ?_ ?_; rotate_left; (next => intro w'; go_simp; with_reducible rfl); rotate_left; next => simp only [Act.put, sA, sB, sC, i64_w, i32_w]; rfl
              refine done_ (done_of HT_.out (by kernel_rfl)) ?_
              try go_wp2
              have n0_ := aM (Kd.R_drew HO_6.out)
              have n1_ := aM (Kd.R_drew HO_8.out)
              have n2_ := aM (blk_drew BK159.out)
              have n3_ := aM (below_drew1 HB.out)
              clear HO_6 HO_8 BK159 HB
              have HO_6 := n0_
              have HO_8 := n1_
              have BK159 := n2_
              have HB := n3_
              clear n0_ n1_ n2_ n3_
              have p173 : 0 ≤ (x9_2 : Int) := oT (by assumption)
              have q173 : x9_2 < (x8_2.length : Int) := oT (by assumption)
              obtain ⟨ad173, e173, hx173_0⟩ := Kd.at_string (Kd.R_reads' HO_8.out).2.2 x9_2 p173 q173
              obtain rfl : ad170 = ad173 := (by injection e173)
              replace p173 := eq_true p173
              replace q173 := eq_true q173
              refine start_ (n := 8) (S := fun w' => w'.cell? ⟨gb159, 0, none⟩ = some (.slice A0_0 l0_0.length c0_0) ∧ w'.cell? ⟨gb159, 1, none⟩ = some (.slice A0_1 l0_1.length c0_1) ∧ w'.cell? (ad170.add (x9_2).toNat) = some (.string (rdOf ByteArray.empty x8_2 x9_2))) (ds := []) #[F,F,F,F,F,F,F,F] (by kernel_rfl) rfl rfl ⟨(blk_cell BK159.out 0).trans rfl, (blk_cell BK159.out 1).trans rfl, hx173_0⟩ (fun hHeld => ?_); refine with_tabW spec_boFar.tab13 spec_boFar.bits13 (fun HT_ HW_ => ?_)
              generalize w36.drew = w37 at HO_6 HO_8 BK159 HB hx173_0 hHeld ⊢
              refine pure_ (i := 1) (N := some 51) (v := ?_) (a' := ?_) #[F,T,F,F,F,F,F,F] rfl rfl (any_of HT_.out (by kernel_rfl)) (fun _ _ _ h => h) (Or.inl ⟨by rfl, ?_⟩) ?_ ?_; rotate_left; (next => intro w'; go_simp; with_reducible rfl); rotate_left; next => simp only [Act.put, sA, sB, sC, i64_w, i32_w]; rfl
              refine pure_ (i := 2) (N := some 52) (v := ?_) (a' := ?_) #[F,T,T,F,F,F,F,F] rfl rfl (any_of HT_.out (by kernel_rfl)) (fun _ _ _ h => h) (Or.inl ⟨by rfl, ?_⟩) ?_ ?_; rotate_left; (next => intro w'; go_simp; with_reducible rfl); rotate_left; next => simp only [Act.put, sA, sB, sC, i64_w, i32_w]; rfl
              refine pure_ (i := 3) (N := some 53) (v := ?_) (a' := ?_) #[F,T,T,T,F,F,F,F] rfl rfl (any_of HT_.out (by kernel_rfl)) (fun _ _ _ h => h) (Or.inl ⟨by rfl, ?_⟩) ?_ ?_; rotate_left; (next => intro w'; go_simp; with_reducible rfl); rotate_left; next => simp only [Act.put, sA, sB, sC, i64_w, i32_w]; rfl
              refine pure_ (i := 7) (N := some 57) (v := ?_) (a' := ?_) #[F,T,T,T,F,F,F,T] rfl rfl (any_of HT_.out (by kernel_rfl)) (fun _ _ _ h => h) (Or.inl ⟨by rfl, ?_⟩) ?_ ?_; rotate_left; (next => intro w'; go_simp; with_reducible rfl); rotate_left; next => simp only [Act.put, sA, sB, sC, i64_w, i32_w]; rfl
              refine take_ (i := 0) (N := some 50) (v := ?_) (a' := ?_) #[T,T,T,T,F,F,F,T] rfl rfl (take_ofW HT_.out HW_.out (by kernel_rfl)) (fun _ _ _ h => h) (Or.inl ⟨by rfl, ?_⟩) hHeld ?_ ?_
              rotate_left
              ·rintro w' ⟨s0, s1, s2⟩
               go_simp
               with_reducible rfl
              rotate_left
              ·simp only [Act.put, sA, sB, sC, i64_w, i32_w]
               rfl
              refine take_ (i := 4) (N := some 54) (v := ?_) (a' := ?_) #[T,T,T,T,T,F,F,T] rfl rfl (take_ofW HT_.out HW_.out (by kernel_rfl)) (fun _ _ _ h => h) (Or.inl ⟨by rfl, ?_⟩) hHeld ?_ ?_
              rotate_left
              ·rintro w' ⟨s0, s1, s2⟩
               go_simp
               with_reducible rfl
              rotate_left
              ·simp only [Act.put, sA, sB, sC, i64_w, i32_w]
               rfl
              refine one_ (i := 5) (N := some 55) #[T,T,T,T,T,T,F,T] rfl rfl (one_of HT_.out (by kernel_rfl)) (by decide) (fun K hK => ?_)
              refine goes_ Try.func32 (by kernel_rfl) rfl #[.agg #[.slice A0_0 l0_0.length c0_0, .slice A0_1 l0_1.length c0_1], .string (rdOf ByteArray.empty x8_2 x9_2)] (by rfl) rfl rfl (by simp only [mA, mB, mC]; all_goals rfl) ?_
              with_reducible refine (spec_boSlides.calls k2 _ _ l0_0 _ _ l0_1 (rdOf ByteArray.empty x8_2 x9_2) t174 _ ?side1 ?side2 ?side3 ?side4 A33.out).mono ?_
              (case side1 => exact Kd.C_below HR0_0.out HB.out)
              (case side2 => exact HC0_0.out)
              (case side3 => exact Kd.C_below HR0_1.out HB.out)
              (case side4 => exact HC0_1.out)
              rintro e w38 ⟨v175, rfl, ho0, hb⟩
              have HS2_ := (hb.cell (World.block_lt_of_cell? _ _ (hHeld.2.2))).trans (hHeld.2.2)
              refine ⟨_, rfl, ?_⟩
              have n0_ := aM (Kd.R_below HO_6.out hb)
              have n1_ := aM (Kd.R_below HO_8.out hb)
              have n2_ := aM (Kd.R_lower ho0 (below_size HB.out))
              have n3_ := aM (blk_below (g := gb159) (o := .cells #[.slice A0_0 l0_0.length c0_0, .slice A0_1 l0_1.length c0_1] 31 (0, 0)) BK159.out hb)
              have n4_ := aM (below_step HB.out hb)
              clear HO_6 HO_8 BK159 HB
              have HO_6 := n0_
              have HO_8 := n1_
              have HO176 := n2_
              have BK159 := n3_
              have HB := n4_
              clear n0_ n1_ n2_ n3_ n4_
              (try clear hb)
              (try clear hb2)
              (try clear hk)
              (try clear hi)
              (try clear ho0)
              obtain ⟨Ao39, co39, eo39⟩ := Kd.R_slice HO176.out
              (first | subst eo39 | (injection eo39 with f1_ f2_ f3_; have f4_ := f1_.symm; have f5_ := f3_.symm; clear f1_ f2_ f3_; subst f4_; subst f5_))
              refine hK.out _ _ ⟨(blk_cell BK159.out 0).trans rfl, (blk_cell BK159.out 1).trans rfl, HS2_⟩ (fun hHeld => ?_)
              clear hK K
              refine norm_ (a' := ?_) ?_ ?_
              rotate_left
              ·show Act.put _ (some 55) _ = _
               simp only [Act.put, sA, sB, sC, i64_w, i32_w]
               rfl
              refine pure_ (i := 6) (N := some 56) (v := ?_) (a' := ?_) #[T,T,T,T,T,T,T,T] rfl rfl (any_of HT_.out (by kernel_rfl)) (fun _ _ _ h => h) (Or.inl ⟨by rfl, ?_⟩) ?_ ?_; rotate_left; (next => intro w'; go_simp; with_reducible rfl); rotate_left; next => simp only [Act.put, sA, sB, sC, i64_w, i32_w]; rfl
              refine done_ (done_of HT_.out (by kernel_rfl)) ?_
              try go_wp2
              go_loopg [8, 57] k2 (fun kq v8 v57 w' => ∃ (x6_3 : List Int) (x8_3 : List ByteArray) (x57_3 : Int), v57 = .int .i64 x57_3 ∧ Aside0 (spec_boFar.l2 kq x6_3 x8_3 x9_2 (rd x6_2 t171) t174 (t174.length : Int) x57_3 l0_0 l0_1 = some (r1, r2)) ∧ Aside0 (kq ≤ k2) ∧ Aside0 (Kd.R (Kd.int .i64) 3 w' w.heap.size (fun _ => True) (.slice (some ⟨go21, 0, none⟩) x6_2.length co11) x6_3) ∧ Aside0 (Kd.R Kd.string 9 w' w.heap.size (fun _ => True) v8 x8_3) ∧ Aside0 (Kd.R k62 62 w' w.heap.size (fun _ => True) (.slice Ao39 t174.length co39) t174) ∧ Aside0 (w'.heap[gb159]? = some (.cells #[(.slice A0_0 l0_0.length c0_0), (.slice A0_1 l0_1.length c0_1)] 31 (0, 0))) ∧ Aside0 (Below w.heap.size w w'))
              case atStart => exact ⟨(x6_2), (x8_2), (0), rfl, H', ⟨Nat.le_refl _⟩, HO_6, HO_8, HO176, ⟨by (try simp only [hl6_1]); (try simp only [hl6_2]); (with_reducible repeat (first | refine kN ?_ _ | refine kD ?_ | refine kA ?_ _)); exact BK159.out⟩, HB⟩
              case round =>
               clear H'
               try clear c1
               try clear p1
               try clear q1
               try clear hx1
               try clear c2
               try clear p2
               try clear q2
               try clear hx2
               try clear hf2
               try clear c3
               try clear c4
               try clear c4b0
               try clear c4b1
               try clear c5
               try clear c5b0
               try clear c5b1
               try clear p6
               try clear c12
               try clear c12b0
               try clear c13
               try clear c13b0
               try clear c14
               try clear c14b0
               try clear p15
               try clear q15
               try clear hx15
               try clear hf15
               try clear p17
               try clear q17
               try clear hx17
               try clear c19
               try clear c19b0
               try clear c20
               try clear c20b0
               try clear c21
               try clear p21
               try clear q21
               try clear hx21
               try clear hf21
               try clear c22
               try clear c28
               try clear c28b0
               try clear c29
               try clear c29b0
               try clear c31
               try clear c31b0
               try clear c32
               try clear c32b0
               try clear hcz22_0
               try clear hcz22_1
               try clear hcz7_0
               try clear hcz7_1
               try clear hfz22_0
               try clear hfz22_1
               try clear hfz7_0
               try clear hfz7_1
               try clear hx15_0
               try clear hx170_0
               try clear hx172_0
               try clear hx173_0
               try clear hx21_0
               try clear p1
               try clear p15
               try clear p170
               try clear p172
               try clear p173
               try clear p2
               try clear p21
               try clear p6
               try clear q1
               try clear q15
               try clear q170
               try clear q172
               try clear q173
               try clear q2
               try clear q21
               obtain ⟨x6_3, x8_3, x57_3, rfl, HA, HK3, HO_6, HO_8, HO_55, BK159, HB⟩ := hrel
               have hl6_3 := (Kd.R_reads' HO_6.out).1
               rw [hl6_3] at HO_6
               (try simp only [hl6_3])
               (try simp only [hl6_3] at BK159)
               (try simp only [hl6_3] at HO_8)
               (try simp only [hl6_3] at HO_55)
               cases gk with
               | zero => exact absurd HA.out (by simp [spec_boFar.l2])
               | succ k3 =>
                have H := HA.out
                clear HA
                simp only [spec_boFar.l2] at H
                by_cases c40 : x57_3 < (t174.length : Int)
                ·rw [if_pos c40] at H
                 have c40b0 : decide (x57_3 < (t174.length : Int)) = true := decide_eq_true c40
                 (try (have c40m0 := c40b0; simp only [hl6_1] at c40m0)); (try (have c40m1 := c40b0; simp only [hl6_2] at c40m1)); (try (have c40m2 := c40b0; simp only [hl6_3] at c40m2))
                 clear c40
                 by_cases c41 : 0 ≤ x57_3
                 ·rw [if_pos c41] at H
                  have c41b0 : decide (0 ≤ x57_3) = true := decide_eq_true c41
                  clear c41
                  by_cases c42 : x57_3 < (t174.length : Int)
                  ·rw [if_pos c42] at H
                   have c42b0 : decide (x57_3 < (t174.length : Int)) = true := decide_eq_true c42
                   (try (have c42m0 := c42b0; simp only [hl6_1] at c42m0)); (try (have c42m1 := c42b0; simp only [hl6_2] at c42m1)); (try (have c42m2 := c42b0; simp only [hl6_3] at c42m2))
                   clear c42
                   by_cases c43 : 0 ≤ x9_2
                   ·rw [if_pos c43] at H
                    have c43b0 : decide (0 ≤ x9_2) = true := decide_eq_true c43
                    clear c43
                    by_cases c44 : x9_2 < (x8_3.length : Int)
                    ·rw [if_pos c44] at H
                     have c44b0 : decide (x9_2 < (x8_3.length : Int)) = true := decide_eq_true c44
                     (try (have c44m0 := c44b0; simp only [hl6_1] at c44m0)); (try (have c44m1 := c44b0; simp only [hl6_2] at c44m1)); (try (have c44m2 := c44b0; simp only [hl6_3] at c44m2))
                     clear c44
                     replace H := Option.bind_eq_some_iff.mp H
                     obtain ⟨⟨t180, t181⟩, A450, H⟩ := H
                     replace H : ((spec_boNumber.f k3 l0_0 l0_1 t180).bind fun t182 => (if 0 ≤ t182 then (if t182 < (x6_3.length : Int) then (if (rd x6_3 t182) < 0 then (if x8_3.length < 8796093022208 then (spec_boFar.l2 k3 (x6_3.set (t182 : Int).toNat (wrap64 ((rd x6_2 t171) + 1))) (x8_3 ++ [t180]) x9_2 (rd x6_2 t171) t174 (t174.length : Int) (wrap64 (x57_3 + 1)) l0_0 l0_1) else (none)) else (spec_boFar.l2 k3 x6_3 x8_3 x9_2 (rd x6_2 t171) t174 (t174.length : Int) (wrap64 (x57_3 + 1)) l0_0 l0_1)) else (none)) else (none))) = some (r1, r2) := H
                     have A45 := aM A450
                     clear A450
                     replace H := Option.bind_eq_some_iff.mp H
                     obtain ⟨t182, A460, H⟩ := H
                     replace H : (if 0 ≤ t182 then (if t182 < (x6_3.length : Int) then (if (rd x6_3 t182) < 0 then (if x8_3.length < 8796093022208 then (spec_boFar.l2 k3 (x6_3.set (t182 : Int).toNat (wrap64 ((rd x6_2 t171) + 1))) (x8_3 ++ [t180]) x9_2 (rd x6_2 t171) t174 (t174.length : Int) (wrap64 (x57_3 + 1)) l0_0 l0_1) else (none)) else (spec_boFar.l2 k3 x6_3 x8_3 x9_2 (rd x6_2 t171) t174 (t174.length : Int) (wrap64 (x57_3 + 1)) l0_0 l0_1)) else (none)) else (none)) = some (r1, r2) := H
                     have A46 := aM A460
                     clear A460
                     by_cases c47 : 0 ≤ t182
                     ·rw [if_pos c47] at H
                      have c47b0 : decide (0 ≤ t182) = true := decide_eq_true c47
                      clear c47
                      by_cases c48 : t182 < (x6_3.length : Int)
                      ·rw [if_pos c48] at H
                       have c48b0 : decide (t182 < (x6_3.length : Int)) = true := decide_eq_true c48
                       (try (have c48m0 := c48b0; simp only [hl6_1] at c48m0)); (try (have c48m1 := c48b0; simp only [hl6_2] at c48m1)); (try (have c48m2 := c48b0; simp only [hl6_3] at c48m2))
                       clear c48
                       by_cases c49 : (rd x6_3 t182) < 0
                       ·rw [if_pos c49] at H
                        have c49b0 : decide ((rd x6_3 t182) < 0) = true := decide_eq_true c49
                        clear c49
                        obtain ⟨y184, hy184⟩ : ∃ y_ : List Int, y_ = (x6_3.set (t182 : Int).toNat (wrap64 ((rd x6_2 t171) + 1))) := ⟨_, rfl⟩
                        replace H : (if x8_3.length < 8796093022208 then (spec_boFar.l2 k3 y184 (x8_3 ++ [t180]) x9_2 (rd x6_2 t171) t174 (t174.length : Int) (wrap64 (x57_3 + 1)) l0_0 l0_1) else (none)) = some (r1, r2) := by first | (rw [hy184]; with_reducible exact H) | (have H2_ := (Option.bind_some _ _).symm.trans H; rw [hy184]; with_reducible exact H2_) | (have H2_ := (Option.bind_some _ _).symm.trans H; with_reducible exact H2_) | with_reducible exact H | (rw [hy184]; exact H) | exact H
                        have Ny184 := aM hy184
                        clear hy184
                        by_cases c51 : x8_3.length < 8796093022208
                        ·rw [if_pos c51] at H
                         have LMc51 := aM c51
                         clear c51
                         obtain ⟨y185, hy185⟩ : ∃ y_ : List ByteArray, y_ = (x8_3 ++ [t180]) := ⟨_, rfl⟩
                         replace H : (spec_boFar.l2 k3 y184 y185 x9_2 (rd x6_2 t171) t174 (t174.length : Int) (wrap64 (x57_3 + 1)) l0_0 l0_1) = some (r1, r2) := by first | (rw [hy185]; with_reducible exact H) | (have H2_ := (Option.bind_some _ _).symm.trans H; rw [hy185]; with_reducible exact H2_) | (have H2_ := (Option.bind_some _ _).symm.trans H; with_reducible exact H2_) | with_reducible exact H | (rw [hy185]; exact H) | exact H
                         have Ny185 := aM hy185
                         clear hy185
                         have H' := aM H
                         clear H
                         have p177 : 0 ≤ (x57_3 : Int) := oT (by assumption)
                         have q177 : x57_3 < (t174.length : Int) := oT (by assumption)
                         obtain ⟨ad177, e177, hx177_0, hx177_1⟩ := at_T62 (Kd.R_reads' HO_55.out).2.2 x57_3 p177 q177
                         cases e177
                         replace p177 := eq_true p177
                         replace q177 := eq_true q177
                         try go_wp2_with (first | ((with_reducible refine gate_dst (N := 12) rfl ?_); refine box_event ?hg (N := 12) ?hd (cs := #[.int .i64 0, .int .i64 0]) (t := 62) ?hr ?_; (case hd => rfl); (case hg => rfl); (case hr => go_simp); intro gb178 hg w52 hbox hb; replace HO_6 := aM (Kd.R_below HO_6.out hb); replace HO_8 := aM (Kd.R_below HO_8.out hb); replace HO_55 := aM (Kd.R_below (Kd.R_elderB HO_55.out gb178 (Nat.le_of_eq hg.symm)) hb); have BK178 := aM (hbox); have GW178 := aM ((by rw [hg]; exact (below_size HB.out) : w.heap.size ≤ gb178)); replace HB := aM (below_step HB.out hb); have NB159_178 := aM ((by rw [hg]; exact Nat.ne_of_lt (blk_lt (g := gb159) (o := .cells #[.slice A0_0 l0_0.length c0_0, .slice A0_1 l0_1.length c0_1] 31 (0, 0)) BK159.out) : gb159 ≠ gb178)); have NB178_159 := aM ((by rw [hg]; exact Nat.ne_of_gt (blk_lt (g := gb159) (o := .cells #[.slice A0_0 l0_0.length c0_0, .slice A0_1 l0_1.length c0_1] 31 (0, 0)) BK159.out) : gb178 ≠ gb159)); replace BK159 := aM (blk_below (g := gb159) (o := .cells #[.slice A0_0 l0_0.length c0_0, .slice A0_1 l0_1.length c0_1] 31 (0, 0)) BK159.out hb); have GE178 := GW178; clear hb hbox hg; have hnb53 := NB178_159.out; have hnc53 := NB159_178.out; have hcz54_0 : w52.cell? ⟨gb178, 0, none⟩ = some (.int .i64 0) := (blk_cell BK178.out 0).trans rfl; have hcz54_1 : w52.cell? ⟨gb178, 1, none⟩ = some (.int .i64 0) := (blk_cell BK178.out 1).trans rfl; have hfz54_0 := blk_frozen BK178.out 0; have hfz54_1 := blk_frozen BK178.out 1))
                         have n0_ : Aside0 (Kd.R (Kd.int .i64) 3 ((w52.setCell ⟨gb178, 0, none⟩ (.int .i64 ((rd_T62 t174 x57_3).f0))).setCell ⟨gb178, 1, none⟩ (.int .i64 ((rd_T62 t174 x57_3).f1))) w.heap.size (fun _ => True) (.slice (some ⟨go21, 0, none⟩) x6_3.length co11) x6_3) := ⟨by (with_reducible repeat (first | apply rA | apply rN | apply rD)); exact Kd.R_mono (Kd.R_far (p := ⟨gb178, 1, none⟩) (Kd.R_far (p := ⟨gb178, 0, none⟩) (Kd.R_types HO_6.out BK178.out (by decide)) (fun _ hk => hk.2) (.int .i64 ((rd_T62 t174 x57_3).f0))) (fun _ hk => hk.2) (.int .i64 ((rd_T62 t174 x57_3).f1))) (fun _ hk => trivial)⟩
                         have n1_ : Aside0 (Kd.R Kd.string 9 ((w52.setCell ⟨gb178, 0, none⟩ (.int .i64 ((rd_T62 t174 x57_3).f0))).setCell ⟨gb178, 1, none⟩ (.int .i64 ((rd_T62 t174 x57_3).f1))) w.heap.size (fun _ => True) u8 x8_3) := ⟨by (with_reducible repeat (first | apply rA | apply rN | apply rD)); exact Kd.R_mono (Kd.R_far (p := ⟨gb178, 1, none⟩) (Kd.R_far (p := ⟨gb178, 0, none⟩) (Kd.R_types HO_8.out BK178.out (by decide)) (fun _ hk => hk.2) (.int .i64 ((rd_T62 t174 x57_3).f0))) (fun _ hk => hk.2) (.int .i64 ((rd_T62 t174 x57_3).f1))) (fun _ hk => trivial)⟩
                         have n2_ : Aside0 (Kd.R k62 62 ((w52.setCell ⟨gb178, 0, none⟩ (.int .i64 ((rd_T62 t174 x57_3).f0))).setCell ⟨gb178, 1, none⟩ (.int .i64 ((rd_T62 t174 x57_3).f1))) w.heap.size (fun k_ => k_ ≠ gb178) (.slice (some ad177) t174.length co39) t174) := ⟨by (with_reducible repeat (first | apply rA | apply rN | apply rD)); exact Kd.R_mono (Kd.R_far (p := ⟨gb178, 1, none⟩) (Kd.R_far (p := ⟨gb178, 0, none⟩) (Kd.R_mono HO_55.out (fun k_ hk => (⟨hk, hk.2⟩ : _ ∧ k_ ≠ gb178))) (fun _ hk => hk.2) (.int .i64 ((rd_T62 t174 x57_3).f0))) (fun _ hk => hk.2) (.int .i64 ((rd_T62 t174 x57_3).f1))) (fun _ hk => hk.1.2)⟩
                         have n3_ : Aside0 (((w52.setCell ⟨gb178, 0, none⟩ (.int .i64 ((rd_T62 t174 x57_3).f0))).setCell ⟨gb178, 1, none⟩ (.int .i64 ((rd_T62 t174 x57_3).f1))).heap[gb159]? = some (.cells #[.slice A0_0 l0_0.length c0_0, .slice A0_1 l0_1.length c0_1] 31 (0, 0))) := ⟨by (with_reducible repeat (first | refine kN ?_ _ | refine kD ?_ | refine kA ?_ _)); refine blk_far ?_ NB159_178.out _; (with_reducible repeat (first | refine kN ?_ _ | refine kD ?_ | refine kA ?_ _)); refine blk_far ?_ NB159_178.out _; (with_reducible repeat (first | refine kN ?_ _ | refine kD ?_ | refine kA ?_ _)); exact BK159.out⟩
                         have n4_ : Aside0 (((w52.setCell ⟨gb178, 0, none⟩ (.int .i64 ((rd_T62 t174 x57_3).f0))).setCell ⟨gb178, 1, none⟩ (.int .i64 ((rd_T62 t174 x57_3).f1))).heap[gb178]? = some (.cells #[.int .i64 ((rd_T62 t174 x57_3).f0), .int .i64 ((rd_T62 t174 x57_3).f1)] 62 (0, 0))) := ⟨by (with_reducible repeat (first | refine kN ?_ _ | refine kD ?_ | refine kA ?_ _)); refine blk_put (cs := #[.int .i64 ((rd_T62 t174 x57_3).f0), .int .i64 0]) ?_ 1 _ rfl; (with_reducible repeat (first | refine kN ?_ _ | refine kD ?_ | refine kA ?_ _)); refine blk_put (cs := #[.int .i64 0, .int .i64 0]) ?_ 0 _ rfl; (with_reducible repeat (first | refine kN ?_ _ | refine kD ?_ | refine kA ?_ _)); exact BK178.out⟩
                         have n5_ : Aside0 (Below w.heap.size w ((w52.setCell ⟨gb178, 0, none⟩ (.int .i64 ((rd_T62 t174 x57_3).f0))).setCell ⟨gb178, 1, none⟩ (.int .i64 ((rd_T62 t174 x57_3).f1)))) := ⟨by repeat first | exact HB.out | apply bA | apply bN | apply bD | refine bS ?_ GE159.out | refine bS ?_ GE178.out⟩
                         (try clear HO_6)
                         (try clear HO_8)
                         (try clear HO_55)
                         (try clear BK159)
                         (try clear BK178)
                         (try clear HB)
                         generalize ((w52.setCell ⟨gb178, 0, none⟩ (.int .i64 ((rd_T62 t174 x57_3).f0))).setCell ⟨gb178, 1, none⟩ (.int .i64 ((rd_T62 t174 x57_3).f1))) = w55 at n0_ n1_ n2_ n3_ n4_ n5_ ⊢
                         have HO_6 := n0_
                         have HO_8 := n1_
                         have HO_55 := n2_
                         have BK159 := n3_
                         have BK178 := n4_
                         have HB := n5_
                         clear n0_ n1_ n2_ n3_ n4_ n5_
                         have n0_ := aM (Kd.R_drew HO_6.out)
                         have n1_ := aM (Kd.R_drew HO_8.out)
                         have n2_ := aM (Kd.R_drew HO_55.out)
                         have n3_ := aM (blk_drew BK159.out)
                         have n4_ := aM (blk_drew BK178.out)
                         have n5_ := aM (below_drew1 HB.out)
                         clear HO_6 HO_8 HO_55 BK159 BK178 HB
                         have HO_6 := n0_
                         have HO_8 := n1_
                         have HO_55 := n2_
                         have BK159 := n3_
                         have BK178 := n4_
                         have HB := n5_
                         clear n0_ n1_ n2_ n3_ n4_ n5_
                         obtain ⟨Ao57, co57, eo57⟩ := Kd.R_slice HO_8.out
                         (first | subst eo57 | (injection eo57 with f1_ f2_ f3_; have f4_ := f1_.symm; have f5_ := f3_.symm; clear f1_ f2_ f3_; subst f4_; subst f5_))
                         have p179 : 0 ≤ (x9_2 : Int) := oT (by assumption)
                         have q179 : x9_2 < (x8_3.length : Int) := oT (by assumption)
                         obtain ⟨ad179, e179, hx179_0⟩ := Kd.at_string (Kd.R_reads' HO_8.out).2.2 x9_2 p179 q179
                         cases e179
                         replace p179 := eq_true p179
                         replace q179 := eq_true q179
                         refine start_ (n := 12) (S := fun w' => w'.cell? ⟨gb159, 0, none⟩ = some (.slice A0_0 l0_0.length c0_0) ∧ w'.cell? ⟨gb159, 1, none⟩ = some (.slice A0_1 l0_1.length c0_1) ∧ w'.cell? ⟨gb178, 0, none⟩ = some (.int .i64 ((rd_T62 t174 x57_3).f0)) ∧ w'.cell? ⟨gb178, 1, none⟩ = some (.int .i64 ((rd_T62 t174 x57_3).f1)) ∧ w'.cell? (ad179.add (x9_2).toNat) = some (.string (rdOf ByteArray.empty x8_3 x9_2))) (ds := []) #[F,F,F,F,F,F,F,F,F,F,F,F] (by kernel_rfl) rfl rfl ⟨(blk_cell BK159.out 0).trans rfl, (blk_cell BK159.out 1).trans rfl, (blk_cell BK178.out 0).trans rfl, (blk_cell BK178.out 1).trans rfl, hx179_0⟩ (fun hHeld => ?_); refine with_tabW spec_boFar.tab16 spec_boFar.bits16 (fun HT_ HW_ => ?_)
                         generalize w55.drew = w56 at HO_6 HO_8 HO_55 BK159 BK178 HB hx179_0 hHeld ⊢
                         refine pure_ (i := 1) (N := some 63) (v := ?_) (a' := ?_) #[F,T,F,F,F,F,F,F,F,F,F,F] rfl rfl (any_of HT_.out (by kernel_rfl)) (fun _ _ _ h => h) (Or.inl ⟨by rfl, ?_⟩) ?_ ?_; rotate_left; (next => intro w'; go_simp; with_reducible rfl); rotate_left; next => simp only [Act.put, sA, sB, sC, i64_w, i32_w]; rfl
                         refine pure_ (i := 2) (N := some 64) (v := ?_) (a' := ?_) #[F,T,T,F,F,F,F,F,F,F,F,F] rfl rfl (any_of HT_.out (by kernel_rfl)) (fun _ _ _ h => h) (Or.inl ⟨by rfl, ?_⟩) ?_ ?_; rotate_left; (next => intro w'; go_simp; with_reducible rfl); rotate_left; next => simp only [Act.put, sA, sB, sC, i64_w, i32_w]; rfl
                         refine pure_ (i := 3) (N := some 65) (v := ?_) (a' := ?_) #[F,T,T,T,F,F,F,F,F,F,F,F] rfl rfl (any_of HT_.out (by kernel_rfl)) (fun _ _ _ h => h) (Or.inl ⟨by rfl, ?_⟩) ?_ ?_; rotate_left; (next => intro w'; go_simp; with_reducible rfl); rotate_left; next => simp only [Act.put, sA, sB, sC, i64_w, i32_w]; rfl
                         refine take_ (i := 0) (N := some 62) (v := ?_) (a' := ?_) #[T,T,T,T,F,F,F,F,F,F,F,F] rfl rfl (take_ofW HT_.out HW_.out (by kernel_rfl)) (fun _ _ _ h => h) (Or.inl ⟨by rfl, ?_⟩) hHeld ?_ ?_
                         rotate_left
                         ·rintro w' ⟨s0, s1, s2, s3, s4⟩
                          go_simp
                          with_reducible rfl
                         rotate_left
                         ·simp only [Act.put, sA, sB, sC, i64_w, i32_w]
                          rfl
                         refine take_ (i := 4) (N := some 66) (v := ?_) (a' := ?_) #[T,T,T,T,T,F,F,F,F,F,F,F] rfl rfl (take_ofW HT_.out HW_.out (by kernel_rfl)) (fun _ _ _ h => h) (Or.inl ⟨by rfl, ?_⟩) hHeld ?_ ?_
                         rotate_left
                         ·rintro w' ⟨s0, s1, s2, s3, s4⟩
                          go_simp
                          with_reducible rfl
                         rotate_left
                         ·simp only [Act.put, sA, sB, sC, i64_w, i32_w]
                          rfl
                         refine take_ (i := 5) (N := some 67) (v := ?_) (a' := ?_) #[T,T,T,T,T,T,F,F,F,F,F,F] rfl rfl (take_ofW HT_.out HW_.out (by kernel_rfl)) (fun _ _ _ h => h) (Or.inl ⟨by rfl, ?_⟩) hHeld ?_ ?_
                         rotate_left
                         ·rintro w' ⟨s0, s1, s2, s3, s4⟩
                          go_simp
                          with_reducible rfl
                         rotate_left
                         ·simp only [Act.put, sA, sB, sC, i64_w, i32_w]
                          rfl
                         refine one_ (i := 6) (N := some 68) #[T,T,T,T,T,T,T,F,F,F,F,F] rfl rfl (one_of HT_.out (by kernel_rfl)) (by decide) (fun K hK => ?_)
                         refine goes_ Try.func33 (by kernel_rfl) rfl #[.agg #[.slice A0_0 l0_0.length c0_0, .slice A0_1 l0_1.length c0_1], .string (rdOf ByteArray.empty x8_3 x9_2), .agg #[.int .i64 ((rd_T62 t174 x57_3).f0), .int .i64 ((rd_T62 t174 x57_3).f1)]] (by rfl) rfl rfl (by simp only [mA, mB, mC]; all_goals rfl) ?_
                         with_reducible refine (spec_boPut.calls k3 _ _ l0_0 _ _ l0_1 (rdOf ByteArray.empty x8_3 x9_2) ((rd_T62 t174 x57_3).f0) ((rd_T62 t174 x57_3).f1) t180 t181 _ ?side1 ?side2 ?side3 ?side4 A45.out).mono ?_
                         (case side1 => exact Kd.C_below HR0_0.out HB.out)
                         (case side2 => exact HC0_0.out)
                         (case side3 => exact Kd.C_below HR0_1.out HB.out)
                         (case side4 => exact HC0_1.out)
                         rintro e w58 ⟨rfl, hb⟩
                         have HS4_ := (hb.cell (World.block_lt_of_cell? _ _ (hHeld.2.2.2.2))).trans (hHeld.2.2.2.2)
                         refine ⟨_, rfl, ?_⟩
                         have n0_ := aM (Kd.R_below HO_6.out hb)
                         have n1_ := aM (Kd.R_below HO_8.out hb)
                         have n2_ := aM (Kd.R_below HO_55.out hb)
                         have n3_ := aM (blk_below (g := gb159) (o := .cells #[.slice A0_0 l0_0.length c0_0, .slice A0_1 l0_1.length c0_1] 31 (0, 0)) BK159.out hb)
                         have n4_ := aM (blk_below (g := gb178) (o := .cells #[.int .i64 ((rd_T62 t174 x57_3).f0), .int .i64 ((rd_T62 t174 x57_3).f1)] 62 (0, 0)) BK178.out hb)
                         have n5_ := aM (below_step HB.out hb)
                         clear HO_6 HO_8 HO_55 BK159 BK178 HB
                         have HO_6 := n0_
                         have HO_8 := n1_
                         have HO_55 := n2_
                         have BK159 := n3_
                         have BK178 := n4_
                         have HB := n5_
                         clear n0_ n1_ n2_ n3_ n4_ n5_
                         (try clear hb)
                         (try clear hb2)
                         (try clear hk)
                         (try clear hi)
                         refine hK.out _ _ ⟨(blk_cell BK159.out 0).trans rfl, (blk_cell BK159.out 1).trans rfl, (blk_cell BK178.out 0).trans rfl, (blk_cell BK178.out 1).trans rfl, HS4_⟩ (fun hHeld => ?_)
                         clear hK K
                         refine norm_ (a' := ?_) ?_ ?_
                         rotate_left
                         ·show Act.put _ (some 68) _ = _
                          simp only [Act.put, sA, sB, sC, i64_w, i32_w]
                          rfl
                         refine pure_ (i := 7) (N := some 61) (v := ?_) (a' := ?_) #[T,T,T,T,T,T,T,T,F,F,F,F] rfl rfl (any_of HT_.out (by kernel_rfl)) (fun _ _ _ h => h) (Or.inl ⟨by rfl, ?_⟩) ?_ ?_; rotate_left; (next => intro w'; go_simp; with_reducible rfl); rotate_left; next => simp only [Act.put, sA, sB, sC, i64_w, i32_w]; rfl
                         refine pure_ (i := 8) (N := some 69) (v := ?_) (a' := ?_) #[T,T,T,T,T,T,T,T,T,F,F,F] rfl rfl (any_of HT_.out (by kernel_rfl)) (fun _ _ _ h => h) (Or.inl ⟨by rfl, ?_⟩) ?_ ?_; rotate_left; (next => intro w'; go_simp; with_reducible rfl); rotate_left; next => simp only [Act.put, sA, sB, sC, i64_w, i32_w]; rfl
                         refine pure_ (i := 9) (N := some 70) (v := ?_) (a' := ?_) #[T,T,T,T,T,T,T,T,T,T,F,F] rfl rfl (any_of HT_.out (by kernel_rfl)) (fun _ _ _ h => h) (Or.inl ⟨by rfl, ?_⟩) ?_ ?_; rotate_left; (next => intro w'; go_simp; with_reducible rfl); rotate_left; next => simp only [Act.put, sA, sB, sC, i64_w, i32_w]; rfl
                         refine pure_ (i := 10) (N := some 13) (v := ?_) (a' := ?_) #[T,T,T,T,T,T,T,T,T,T,T,F] rfl rfl (any_of HT_.out (by kernel_rfl)) (fun _ _ _ h => h) (Or.inl ⟨by rfl, ?_⟩) ?_ ?_; rotate_left; (next => intro w'; go_simp; with_reducible rfl); rotate_left; next => simp only [Act.put, sA, sB, sC, i64_w, i32_w]; rfl
                         refine pure_ (i := 11) (N := some 14) (v := ?_) (a' := ?_) #[T,T,T,T,T,T,T,T,T,T,T,T] rfl rfl (any_of HT_.out (by kernel_rfl)) (fun _ _ _ h => h) (Or.inl ⟨by rfl, ?_⟩) ?_ ?_; rotate_left; (next => intro w'; go_simp; with_reducible rfl); rotate_left; next => simp only [Act.put, sA, sB, sC, i64_w, i32_w]; rfl
                         refine done_ (done_of HT_.out (by kernel_rfl)) ?_
                         have hcz59_0 : w58.cell? ⟨gb159, 0, none⟩ = some (.slice A0_0 l0_0.length c0_0) := (blk_cell BK159.out 0).trans rfl
                         have hcz59_1 : w58.cell? ⟨gb159, 1, none⟩ = some (.slice A0_1 l0_1.length c0_1) := (blk_cell BK159.out 1).trans rfl
                         have hfz59_0 := blk_frozen BK159.out 0
                         have hfz59_1 := blk_frozen BK159.out 1
                         try go_wp2_with (first | ((with_reducible refine gate_callee (f := 21) rfl ?_); refine goesL_ (some 73) rfl rfl Try.func21 (by kernel_rfl) rfl #[.agg #[.slice A0_0 l0_0.length c0_0, .slice A0_1 l0_1.length c0_1], .string t180] rfl (by simp only [mA, mB, mC]; all_goals rfl) ?_; (with_reducible refine (spec_boNumber.calls k3 _ _ l0_0 _ _ l0_1 t180 t182 _ ?side1 ?side2 ?side3 ?side4 A46.out).mono ?_); (case side1 => exact Kd.C_below HR0_0.out HB.out); (case side2 => exact HC0_0.out); (case side3 => exact Kd.C_below HR0_1.out HB.out); (case side4 => exact HC0_1.out); rintro e w60 ⟨rfl, hb⟩; refine ⟨_, rfl, ?_⟩; replace HO_6 := aM (Kd.R_below HO_6.out hb); replace HO_8 := aM (Kd.R_below HO_8.out hb); replace HO_55 := aM (Kd.R_below HO_55.out hb); replace BK159 := aM (blk_below (g := gb159) (o := .cells #[.slice A0_0 l0_0.length c0_0, .slice A0_1 l0_1.length c0_1] 31 (0, 0)) BK159.out hb); replace BK178 := aM (blk_below (g := gb178) (o := .cells #[.int .i64 ((rd_T62 t174 x57_3).f0), .int .i64 ((rd_T62 t174 x57_3).f1)] 62 (0, 0)) BK178.out hb); replace HB := aM (below_step HB.out hb); (try clear hb); have p183 : 0 ≤ (t182 : Int) := oT (by assumption); have q183 : t182 < (x6_3.length : Int) := oT (by assumption); obtain ⟨ad183, e183, hx183_0⟩ := Kd.at_int (Kd.R_reads' HO_6.out).2.2 t182 p183 q183; obtain rfl : (⟨go21, 0, none⟩ : Addr) = ad183 := (by injection e183); (first | simp only [add_plain] at hx183_0 | simp only [add_at] at hx183_0 | simp only [Addr.add, Nat.zero_add] at hx183_0 | skip); replace p183 := eq_true p183; replace q183 := eq_true q183; have p50 : 0 ≤ (t182 : Int) := oT (by assumption); have q50 : (t182 : Int) < ((x6_3.length : Int) : Int) := oT (by assumption); obtain ⟨hx50_0, hf50_0⟩ := Kd.R_celln 0 HO_6.out (t182 : Int) p50 q50; replace p50 := eq_true p50; replace q50 := eq_true q50; obtain ⟨hy61_, hz61_⟩ := Kd.R_celln 0 HO_6.out (t182 : Int) (oT (by assumption)) (oT (by assumption)); have HP61 := Kd.R_putg HO_6.out (t182 : Int) (wrap64 ((rd x6_2 t171) + 1))) | ((with_reducible refine gate_store (t := 3) (p := 83) rfl ?_); refine store_event (t := 3) (p := 83) (v := ?vo_w62) (w1 := (w60.setCell ⟨go21, (t182 : Int).toNat, none⟩ (.int .i64 (wrap64 ((rd x6_2 t171) + 1))))) ?hg ?ho ?hn ?hr ?_; (case ho => rfl); (case hg => rfl); (case hn => rfl); (case hr => go_simp); intro w62 hw; have hg : w60.grownBy w62 (some go21) := (by rw [hw]; exact HP61.2); have hp_ : Kd.R (Kd.int .i64) 3 w62 w.heap.size (fun _ => True) (.slice (some ⟨go21, 0, none⟩) x6_3.length co11) y184 := (by rw [hw, Ny184.out]; exact HP61.1); clear HP61; replace HO_8 := aM (Kd.R_over' (v := (.slice (some ⟨go21, 0, none⟩) x6_3.length co11)) HO_8.out (Kd.R_typed HO_6.out) (by decide) hg); replace HO_55 := aM (Kd.R_over' (v := (.slice (some ⟨go21, 0, none⟩) x6_3.length co11)) HO_55.out (Kd.R_typed HO_6.out) (by decide) hg); replace BK159 := aM (blk_grown (g := gb159) (o := .cells #[.slice A0_0 l0_0.length c0_0, .slice A0_1 l0_1.length c0_1] 31 (0, 0)) BK159.out hg (Kd.R_ne HO_6.out BK159.out (by decide))); replace BK178 := aM (blk_grown (g := gb178) (o := .cells #[.int .i64 ((rd_T62 t174 x57_3).f0), .int .i64 ((rd_T62 t174 x57_3).f1)] 62 (0, 0)) BK178.out hg (Kd.R_ne HO_6.out BK178.out (by decide))); replace HO_6 := aM (hp_); replace HB := aM ((by rw [hw]; exact below_set (HB.out) GB21.out : Below w.heap.size w w62)); clear hg hw hp_) | ((with_reducible refine gate_builtin (b := .append) (xs := #[.tmp 84, .tmp 86]) rfl ?_); at_builtin; refine Kd.R_append Kd.string (w0 := w) w.heap.size rfl (.tmp 84) (.tmp 86) 47 9 (.string ⟨#[]⟩) 16 rfl Try.underlying47 info9 rfl (by decide) (by omega) (.slice (some ad179) x8_3.length co57) x8_3 t180 [.string t180] (fun _ => True) (fun _ => False) rfl rfl ?aP (fun _ hk => hk.elim) ?aF ?aO ?aB ?aS ?aL ?_; (case aP => exact rfl); (case aB => exact HB.out); (case aF => exact (fun _ _ => trivial)); (case aO => exact HO_8.out); (case aS => exact (below_size HB.out)); (case aL => have := LMc51.out; omega); intro v186 w63 ho hb hg hat; rw [← Ny185.out] at ho; replace HO_6 := aM (Kd.R_over' HO_6.out (Kd.R_typed HO_8.out) (by decide) hg); replace HO_55 := aM (Kd.R_over' HO_55.out (Kd.R_typed HO_8.out) (by decide) hg); replace BK159 := aM (blk_grown (g := gb159) (o := .cells #[.slice A0_0 l0_0.length c0_0, .slice A0_1 l0_1.length c0_1] 31 (0, 0)) BK159.out hg (Kd.R_ne HO_8.out BK159.out (by decide))); replace BK178 := aM (blk_grown (g := gb178) (o := .cells #[.int .i64 ((rd_T62 t174 x57_3).f0), .int .i64 ((rd_T62 t174 x57_3).f1)] 62 (0, 0)) BK178.out hg (Kd.R_ne HO_8.out BK178.out (by decide))); replace HB := aM (hb); have HO187 := aM (ho); clear ho hb hg hat))
                         (try simp only [← hl6_3])
                         go_roundg k3
                         case measure => have := HK1.out; have := HK2.out; have := HK3.out; omega
                         case rel => exact ⟨(y184), (y185), (wrap64 (x57_3 + 1)), rfl, H', ⟨by have := HK1.out; have := HK2.out; have := HK3.out; omega⟩, ⟨by (try simp only [hl6_1]); (try simp only [hl6_2]); (try simp only [hl6_3]); (with_reducible repeat (first | apply rA | apply rN | apply rD)); exact HO_6.out⟩, ⟨by (try simp only [hl6_1]); (try simp only [hl6_2]); (try simp only [hl6_3]); (with_reducible repeat (first | apply rA | apply rN | apply rD)); exact HO187.out⟩, ⟨by (try simp only [hl6_1]); (try simp only [hl6_2]); (try simp only [hl6_3]); (with_reducible repeat (first | apply rA | apply rN | apply rD)); exact Kd.R_mono HO_55.out (fun _ hk => trivial)⟩, ⟨by (try simp only [hl6_1]); (try simp only [hl6_2]); (try simp only [hl6_3]); (with_reducible repeat (first | refine kN ?_ _ | refine kD ?_ | refine kA ?_ _)); exact BK159.out⟩, ⟨by repeat first | exact HB.out | apply bA | apply bN | apply bD | refine bS ?_ GE159.out | refine bS ?_ GE178.out⟩⟩
                        ·rw [if_neg c51] at H
                         exact absurd H (by simp)
                       ·rw [if_neg c49] at H
                        have c49b0 : decide ((rd x6_3 t182) < 0) = false := decide_eq_false c49
                        clear c49
                        have H' := aM H
                        clear H
                        have p177 : 0 ≤ (x57_3 : Int) := oT (by assumption)
                        have q177 : x57_3 < (t174.length : Int) := oT (by assumption)
                        obtain ⟨ad177, e177, hx177_0, hx177_1⟩ := at_T62 (Kd.R_reads' HO_55.out).2.2 x57_3 p177 q177
                        cases e177
                        replace p177 := eq_true p177
                        replace q177 := eq_true q177
                        try go_wp2_with (first | ((with_reducible refine gate_dst (N := 12) rfl ?_); refine box_event ?hg (N := 12) ?hd (cs := #[.int .i64 0, .int .i64 0]) (t := 62) ?hr ?_; (case hd => rfl); (case hg => rfl); (case hr => go_simp); intro gb178 hg w64 hbox hb; replace HO_6 := aM (Kd.R_below HO_6.out hb); replace HO_8 := aM (Kd.R_below HO_8.out hb); replace HO_55 := aM (Kd.R_below (Kd.R_elderB HO_55.out gb178 (Nat.le_of_eq hg.symm)) hb); have BK178 := aM (hbox); have GW178 := aM ((by rw [hg]; exact (below_size HB.out) : w.heap.size ≤ gb178)); replace HB := aM (below_step HB.out hb); have NB159_178 := aM ((by rw [hg]; exact Nat.ne_of_lt (blk_lt (g := gb159) (o := .cells #[.slice A0_0 l0_0.length c0_0, .slice A0_1 l0_1.length c0_1] 31 (0, 0)) BK159.out) : gb159 ≠ gb178)); have NB178_159 := aM ((by rw [hg]; exact Nat.ne_of_gt (blk_lt (g := gb159) (o := .cells #[.slice A0_0 l0_0.length c0_0, .slice A0_1 l0_1.length c0_1] 31 (0, 0)) BK159.out) : gb178 ≠ gb159)); replace BK159 := aM (blk_below (g := gb159) (o := .cells #[.slice A0_0 l0_0.length c0_0, .slice A0_1 l0_1.length c0_1] 31 (0, 0)) BK159.out hb); have GE178 := GW178; clear hb hbox hg; have hnb65 := NB178_159.out; have hnc65 := NB159_178.out; have hcz66_0 : w64.cell? ⟨gb178, 0, none⟩ = some (.int .i64 0) := (blk_cell BK178.out 0).trans rfl; have hcz66_1 : w64.cell? ⟨gb178, 1, none⟩ = some (.int .i64 0) := (blk_cell BK178.out 1).trans rfl; have hfz66_0 := blk_frozen BK178.out 0; have hfz66_1 := blk_frozen BK178.out 1))
                        have n0_ : Aside0 (Kd.R (Kd.int .i64) 3 ((w64.setCell ⟨gb178, 0, none⟩ (.int .i64 ((rd_T62 t174 x57_3).f0))).setCell ⟨gb178, 1, none⟩ (.int .i64 ((rd_T62 t174 x57_3).f1))) w.heap.size (fun _ => True) (.slice (some ⟨go21, 0, none⟩) x6_3.length co11) x6_3) := ⟨by (with_reducible repeat (first | apply rA | apply rN | apply rD)); exact Kd.R_mono (Kd.R_far (p := ⟨gb178, 1, none⟩) (Kd.R_far (p := ⟨gb178, 0, none⟩) (Kd.R_types HO_6.out BK178.out (by decide)) (fun _ hk => hk.2) (.int .i64 ((rd_T62 t174 x57_3).f0))) (fun _ hk => hk.2) (.int .i64 ((rd_T62 t174 x57_3).f1))) (fun _ hk => trivial)⟩
                        have n1_ : Aside0 (Kd.R Kd.string 9 ((w64.setCell ⟨gb178, 0, none⟩ (.int .i64 ((rd_T62 t174 x57_3).f0))).setCell ⟨gb178, 1, none⟩ (.int .i64 ((rd_T62 t174 x57_3).f1))) w.heap.size (fun _ => True) u8 x8_3) := ⟨by (with_reducible repeat (first | apply rA | apply rN | apply rD)); exact Kd.R_mono (Kd.R_far (p := ⟨gb178, 1, none⟩) (Kd.R_far (p := ⟨gb178, 0, none⟩) (Kd.R_types HO_8.out BK178.out (by decide)) (fun _ hk => hk.2) (.int .i64 ((rd_T62 t174 x57_3).f0))) (fun _ hk => hk.2) (.int .i64 ((rd_T62 t174 x57_3).f1))) (fun _ hk => trivial)⟩
                        have n2_ : Aside0 (Kd.R k62 62 ((w64.setCell ⟨gb178, 0, none⟩ (.int .i64 ((rd_T62 t174 x57_3).f0))).setCell ⟨gb178, 1, none⟩ (.int .i64 ((rd_T62 t174 x57_3).f1))) w.heap.size (fun k_ => k_ ≠ gb178) (.slice (some ad177) t174.length co39) t174) := ⟨by (with_reducible repeat (first | apply rA | apply rN | apply rD)); exact Kd.R_mono (Kd.R_far (p := ⟨gb178, 1, none⟩) (Kd.R_far (p := ⟨gb178, 0, none⟩) (Kd.R_mono HO_55.out (fun k_ hk => (⟨hk, hk.2⟩ : _ ∧ k_ ≠ gb178))) (fun _ hk => hk.2) (.int .i64 ((rd_T62 t174 x57_3).f0))) (fun _ hk => hk.2) (.int .i64 ((rd_T62 t174 x57_3).f1))) (fun _ hk => hk.1.2)⟩
                        have n3_ : Aside0 (((w64.setCell ⟨gb178, 0, none⟩ (.int .i64 ((rd_T62 t174 x57_3).f0))).setCell ⟨gb178, 1, none⟩ (.int .i64 ((rd_T62 t174 x57_3).f1))).heap[gb159]? = some (.cells #[.slice A0_0 l0_0.length c0_0, .slice A0_1 l0_1.length c0_1] 31 (0, 0))) := ⟨by (with_reducible repeat (first | refine kN ?_ _ | refine kD ?_ | refine kA ?_ _)); refine blk_far ?_ NB159_178.out _; (with_reducible repeat (first | refine kN ?_ _ | refine kD ?_ | refine kA ?_ _)); refine blk_far ?_ NB159_178.out _; (with_reducible repeat (first | refine kN ?_ _ | refine kD ?_ | refine kA ?_ _)); exact BK159.out⟩
                        have n4_ : Aside0 (((w64.setCell ⟨gb178, 0, none⟩ (.int .i64 ((rd_T62 t174 x57_3).f0))).setCell ⟨gb178, 1, none⟩ (.int .i64 ((rd_T62 t174 x57_3).f1))).heap[gb178]? = some (.cells #[.int .i64 ((rd_T62 t174 x57_3).f0), .int .i64 ((rd_T62 t174 x57_3).f1)] 62 (0, 0))) := ⟨by (with_reducible repeat (first | refine kN ?_ _ | refine kD ?_ | refine kA ?_ _)); refine blk_put (cs := #[.int .i64 ((rd_T62 t174 x57_3).f0), .int .i64 0]) ?_ 1 _ rfl; (with_reducible repeat (first | refine kN ?_ _ | refine kD ?_ | refine kA ?_ _)); refine blk_put (cs := #[.int .i64 0, .int .i64 0]) ?_ 0 _ rfl; (with_reducible repeat (first | refine kN ?_ _ | refine kD ?_ | refine kA ?_ _)); exact BK178.out⟩
                        have n5_ : Aside0 (Below w.heap.size w ((w64.setCell ⟨gb178, 0, none⟩ (.int .i64 ((rd_T62 t174 x57_3).f0))).setCell ⟨gb178, 1, none⟩ (.int .i64 ((rd_T62 t174 x57_3).f1)))) := ⟨by repeat first | exact HB.out | apply bA | apply bN | apply bD | refine bS ?_ GE159.out | refine bS ?_ GE178.out⟩
                        (try clear HO_6)
                        (try clear HO_8)
                        (try clear HO_55)
                        (try clear BK159)
                        (try clear BK178)
                        (try clear HB)
                        generalize ((w64.setCell ⟨gb178, 0, none⟩ (.int .i64 ((rd_T62 t174 x57_3).f0))).setCell ⟨gb178, 1, none⟩ (.int .i64 ((rd_T62 t174 x57_3).f1))) = w67 at n0_ n1_ n2_ n3_ n4_ n5_ ⊢
                        have HO_6 := n0_
                        have HO_8 := n1_
                        have HO_55 := n2_
                        have BK159 := n3_
                        have BK178 := n4_
                        have HB := n5_
                        clear n0_ n1_ n2_ n3_ n4_ n5_
                        have n0_ := aM (Kd.R_drew HO_6.out)
                        have n1_ := aM (Kd.R_drew HO_8.out)
                        have n2_ := aM (Kd.R_drew HO_55.out)
                        have n3_ := aM (blk_drew BK159.out)
                        have n4_ := aM (blk_drew BK178.out)
                        have n5_ := aM (below_drew1 HB.out)
                        clear HO_6 HO_8 HO_55 BK159 BK178 HB
                        have HO_6 := n0_
                        have HO_8 := n1_
                        have HO_55 := n2_
                        have BK159 := n3_
                        have BK178 := n4_
                        have HB := n5_
                        clear n0_ n1_ n2_ n3_ n4_ n5_
                        obtain ⟨Ao69, co69, eo69⟩ := Kd.R_slice HO_8.out
                        (first | subst eo69 | (injection eo69 with f1_ f2_ f3_; have f4_ := f1_.symm; have f5_ := f3_.symm; clear f1_ f2_ f3_; subst f4_; subst f5_))
                        have p179 : 0 ≤ (x9_2 : Int) := oT (by assumption)
                        have q179 : x9_2 < (x8_3.length : Int) := oT (by assumption)
                        obtain ⟨ad179, e179, hx179_0⟩ := Kd.at_string (Kd.R_reads' HO_8.out).2.2 x9_2 p179 q179
                        cases e179
                        replace p179 := eq_true p179
                        replace q179 := eq_true q179
                        refine start_ (n := 12) (S := fun w' => w'.cell? ⟨gb159, 0, none⟩ = some (.slice A0_0 l0_0.length c0_0) ∧ w'.cell? ⟨gb159, 1, none⟩ = some (.slice A0_1 l0_1.length c0_1) ∧ w'.cell? ⟨gb178, 0, none⟩ = some (.int .i64 ((rd_T62 t174 x57_3).f0)) ∧ w'.cell? ⟨gb178, 1, none⟩ = some (.int .i64 ((rd_T62 t174 x57_3).f1)) ∧ w'.cell? (ad179.add (x9_2).toNat) = some (.string (rdOf ByteArray.empty x8_3 x9_2))) (ds := []) #[F,F,F,F,F,F,F,F,F,F,F,F] (by kernel_rfl) rfl rfl ⟨(blk_cell BK159.out 0).trans rfl, (blk_cell BK159.out 1).trans rfl, (blk_cell BK178.out 0).trans rfl, (blk_cell BK178.out 1).trans rfl, hx179_0⟩ (fun hHeld => ?_); refine with_tabW spec_boFar.tab16 spec_boFar.bits16 (fun HT_ HW_ => ?_)
                        generalize w67.drew = w68 at HO_6 HO_8 HO_55 BK159 BK178 HB hx179_0 hHeld ⊢
                        refine pure_ (i := 1) (N := some 63) (v := ?_) (a' := ?_) #[F,T,F,F,F,F,F,F,F,F,F,F] rfl rfl (any_of HT_.out (by kernel_rfl)) (fun _ _ _ h => h) (Or.inl ⟨by rfl, ?_⟩) ?_ ?_; rotate_left; (next => intro w'; go_simp; with_reducible rfl); rotate_left; next => simp only [Act.put, sA, sB, sC, i64_w, i32_w]; rfl
                        refine pure_ (i := 2) (N := some 64) (v := ?_) (a' := ?_) #[F,T,T,F,F,F,F,F,F,F,F,F] rfl rfl (any_of HT_.out (by kernel_rfl)) (fun _ _ _ h => h) (Or.inl ⟨by rfl, ?_⟩) ?_ ?_; rotate_left; (next => intro w'; go_simp; with_reducible rfl); rotate_left; next => simp only [Act.put, sA, sB, sC, i64_w, i32_w]; rfl
                        refine pure_ (i := 3) (N := some 65) (v := ?_) (a' := ?_) #[F,T,T,T,F,F,F,F,F,F,F,F] rfl rfl (any_of HT_.out (by kernel_rfl)) (fun _ _ _ h => h) (Or.inl ⟨by rfl, ?_⟩) ?_ ?_; rotate_left; (next => intro w'; go_simp; with_reducible rfl); rotate_left; next => simp only [Act.put, sA, sB, sC, i64_w, i32_w]; rfl
                        refine take_ (i := 0) (N := some 62) (v := ?_) (a' := ?_) #[T,T,T,T,F,F,F,F,F,F,F,F] rfl rfl (take_ofW HT_.out HW_.out (by kernel_rfl)) (fun _ _ _ h => h) (Or.inl ⟨by rfl, ?_⟩) hHeld ?_ ?_
                        rotate_left
                        ·rintro w' ⟨s0, s1, s2, s3, s4⟩
                         go_simp
                         with_reducible rfl
                        rotate_left
                        ·simp only [Act.put, sA, sB, sC, i64_w, i32_w]
                         rfl
                        refine take_ (i := 4) (N := some 66) (v := ?_) (a' := ?_) #[T,T,T,T,T,F,F,F,F,F,F,F] rfl rfl (take_ofW HT_.out HW_.out (by kernel_rfl)) (fun _ _ _ h => h) (Or.inl ⟨by rfl, ?_⟩) hHeld ?_ ?_
                        rotate_left
                        ·rintro w' ⟨s0, s1, s2, s3, s4⟩
                         go_simp
                         with_reducible rfl
                        rotate_left
                        ·simp only [Act.put, sA, sB, sC, i64_w, i32_w]
                         rfl
                        refine take_ (i := 5) (N := some 67) (v := ?_) (a' := ?_) #[T,T,T,T,T,T,F,F,F,F,F,F] rfl rfl (take_ofW HT_.out HW_.out (by kernel_rfl)) (fun _ _ _ h => h) (Or.inl ⟨by rfl, ?_⟩) hHeld ?_ ?_
                        rotate_left
                        ·rintro w' ⟨s0, s1, s2, s3, s4⟩
                         go_simp
                         with_reducible rfl
                        rotate_left
                        ·simp only [Act.put, sA, sB, sC, i64_w, i32_w]
                         rfl
                        refine one_ (i := 6) (N := some 68) #[T,T,T,T,T,T,T,F,F,F,F,F] rfl rfl (one_of HT_.out (by kernel_rfl)) (by decide) (fun K hK => ?_)
                        refine goes_ Try.func33 (by kernel_rfl) rfl #[.agg #[.slice A0_0 l0_0.length c0_0, .slice A0_1 l0_1.length c0_1], .string (rdOf ByteArray.empty x8_3 x9_2), .agg #[.int .i64 ((rd_T62 t174 x57_3).f0), .int .i64 ((rd_T62 t174 x57_3).f1)]] (by rfl) rfl rfl (by simp only [mA, mB, mC]; all_goals rfl) ?_
                        with_reducible refine (spec_boPut.calls k3 _ _ l0_0 _ _ l0_1 (rdOf ByteArray.empty x8_3 x9_2) ((rd_T62 t174 x57_3).f0) ((rd_T62 t174 x57_3).f1) t180 t181 _ ?side1 ?side2 ?side3 ?side4 A45.out).mono ?_
                        (case side1 => exact Kd.C_below HR0_0.out HB.out)
                        (case side2 => exact HC0_0.out)
                        (case side3 => exact Kd.C_below HR0_1.out HB.out)
                        (case side4 => exact HC0_1.out)
                        rintro e w70 ⟨rfl, hb⟩
                        have HS4_ := (hb.cell (World.block_lt_of_cell? _ _ (hHeld.2.2.2.2))).trans (hHeld.2.2.2.2)
                        refine ⟨_, rfl, ?_⟩
                        have n0_ := aM (Kd.R_below HO_6.out hb)
                        have n1_ := aM (Kd.R_below HO_8.out hb)
                        have n2_ := aM (Kd.R_below HO_55.out hb)
                        have n3_ := aM (blk_below (g := gb159) (o := .cells #[.slice A0_0 l0_0.length c0_0, .slice A0_1 l0_1.length c0_1] 31 (0, 0)) BK159.out hb)
                        have n4_ := aM (blk_below (g := gb178) (o := .cells #[.int .i64 ((rd_T62 t174 x57_3).f0), .int .i64 ((rd_T62 t174 x57_3).f1)] 62 (0, 0)) BK178.out hb)
                        have n5_ := aM (below_step HB.out hb)
                        clear HO_6 HO_8 HO_55 BK159 BK178 HB
                        have HO_6 := n0_
                        have HO_8 := n1_
                        have HO_55 := n2_
                        have BK159 := n3_
                        have BK178 := n4_
                        have HB := n5_
                        clear n0_ n1_ n2_ n3_ n4_ n5_
                        (try clear hb)
                        (try clear hb2)
                        (try clear hk)
                        (try clear hi)
                        refine hK.out _ _ ⟨(blk_cell BK159.out 0).trans rfl, (blk_cell BK159.out 1).trans rfl, (blk_cell BK178.out 0).trans rfl, (blk_cell BK178.out 1).trans rfl, HS4_⟩ (fun hHeld => ?_)
                        clear hK K
                        refine norm_ (a' := ?_) ?_ ?_
                        rotate_left
                        ·show Act.put _ (some 68) _ = _
                         simp only [Act.put, sA, sB, sC, i64_w, i32_w]
                         rfl
                        refine pure_ (i := 7) (N := some 61) (v := ?_) (a' := ?_) #[T,T,T,T,T,T,T,T,F,F,F,F] rfl rfl (any_of HT_.out (by kernel_rfl)) (fun _ _ _ h => h) (Or.inl ⟨by rfl, ?_⟩) ?_ ?_; rotate_left; (next => intro w'; go_simp; with_reducible rfl); rotate_left; next => simp only [Act.put, sA, sB, sC, i64_w, i32_w]; rfl
                        refine pure_ (i := 8) (N := some 69) (v := ?_) (a' := ?_) #[T,T,T,T,T,T,T,T,T,F,F,F] rfl rfl (any_of HT_.out (by kernel_rfl)) (fun _ _ _ h => h) (Or.inl ⟨by rfl, ?_⟩) ?_ ?_; rotate_left; (next => intro w'; go_simp; with_reducible rfl); rotate_left; next => simp only [Act.put, sA, sB, sC, i64_w, i32_w]; rfl
                        refine pure_ (i := 9) (N := some 70) (v := ?_) (a' := ?_) #[T,T,T,T,T,T,T,T,T,T,F,F] rfl rfl (any_of HT_.out (by kernel_rfl)) (fun _ _ _ h => h) (Or.inl ⟨by rfl, ?_⟩) ?_ ?_; rotate_left; (next => intro w'; go_simp; with_reducible rfl); rotate_left; next => simp only [Act.put, sA, sB, sC, i64_w, i32_w]; rfl
                        refine pure_ (i := 10) (N := some 13) (v := ?_) (a' := ?_) #[T,T,T,T,T,T,T,T,T,T,T,F] rfl rfl (any_of HT_.out (by kernel_rfl)) (fun _ _ _ h => h) (Or.inl ⟨by rfl, ?_⟩) ?_ ?_; rotate_left; (next => intro w'; go_simp; with_reducible rfl); rotate_left; next => simp only [Act.put, sA, sB, sC, i64_w, i32_w]; rfl
                        refine pure_ (i := 11) (N := some 14) (v := ?_) (a' := ?_) #[T,T,T,T,T,T,T,T,T,T,T,T] rfl rfl (any_of HT_.out (by kernel_rfl)) (fun _ _ _ h => h) (Or.inl ⟨by rfl, ?_⟩) ?_ ?_; rotate_left; (next => intro w'; go_simp; with_reducible rfl); rotate_left; next => simp only [Act.put, sA, sB, sC, i64_w, i32_w]; rfl
                        refine done_ (done_of HT_.out (by kernel_rfl)) ?_
                        have hcz71_0 : w70.cell? ⟨gb159, 0, none⟩ = some (.slice A0_0 l0_0.length c0_0) := (blk_cell BK159.out 0).trans rfl
                        have hcz71_1 : w70.cell? ⟨gb159, 1, none⟩ = some (.slice A0_1 l0_1.length c0_1) := (blk_cell BK159.out 1).trans rfl
                        have hfz71_0 := blk_frozen BK159.out 0
                        have hfz71_1 := blk_frozen BK159.out 1
                        try go_wp2_with (first | ((with_reducible refine gate_callee (f := 21) rfl ?_); refine goesL_ (some 73) rfl rfl Try.func21 (by kernel_rfl) rfl #[.agg #[.slice A0_0 l0_0.length c0_0, .slice A0_1 l0_1.length c0_1], .string t180] rfl (by simp only [mA, mB, mC]; all_goals rfl) ?_; (with_reducible refine (spec_boNumber.calls k3 _ _ l0_0 _ _ l0_1 t180 t182 _ ?side1 ?side2 ?side3 ?side4 A46.out).mono ?_); (case side1 => exact Kd.C_below HR0_0.out HB.out); (case side2 => exact HC0_0.out); (case side3 => exact Kd.C_below HR0_1.out HB.out); (case side4 => exact HC0_1.out); rintro e w72 ⟨rfl, hb⟩; refine ⟨_, rfl, ?_⟩; replace HO_6 := aM (Kd.R_below HO_6.out hb); replace HO_8 := aM (Kd.R_below HO_8.out hb); replace HO_55 := aM (Kd.R_below HO_55.out hb); replace BK159 := aM (blk_below (g := gb159) (o := .cells #[.slice A0_0 l0_0.length c0_0, .slice A0_1 l0_1.length c0_1] 31 (0, 0)) BK159.out hb); replace BK178 := aM (blk_below (g := gb178) (o := .cells #[.int .i64 ((rd_T62 t174 x57_3).f0), .int .i64 ((rd_T62 t174 x57_3).f1)] 62 (0, 0)) BK178.out hb); replace HB := aM (below_step HB.out hb); (try clear hb); have p183 : 0 ≤ (t182 : Int) := oT (by assumption); have q183 : t182 < (x6_3.length : Int) := oT (by assumption); obtain ⟨ad183, e183, hx183_0⟩ := Kd.at_int (Kd.R_reads' HO_6.out).2.2 t182 p183 q183; obtain rfl : (⟨go21, 0, none⟩ : Addr) = ad183 := (by injection e183); (first | simp only [add_plain] at hx183_0 | simp only [add_at] at hx183_0 | simp only [Addr.add, Nat.zero_add] at hx183_0 | skip); replace p183 := eq_true p183; replace q183 := eq_true q183))
                        (try simp only [← hl6_3])
                        go_roundg k3
                        case measure => have := HK1.out; have := HK2.out; have := HK3.out; omega
                        case rel => exact ⟨(x6_3), (x8_3), (wrap64 (x57_3 + 1)), rfl, H', ⟨by have := HK1.out; have := HK2.out; have := HK3.out; omega⟩, ⟨by (try simp only [hl6_1]); (try simp only [hl6_2]); (try simp only [hl6_3]); (with_reducible repeat (first | apply rA | apply rN | apply rD)); exact HO_6.out⟩, ⟨by (try simp only [hl6_1]); (try simp only [hl6_2]); (try simp only [hl6_3]); (with_reducible repeat (first | apply rA | apply rN | apply rD)); exact HO_8.out⟩, ⟨by (try simp only [hl6_1]); (try simp only [hl6_2]); (try simp only [hl6_3]); (with_reducible repeat (first | apply rA | apply rN | apply rD)); exact Kd.R_mono HO_55.out (fun _ hk => trivial)⟩, ⟨by (try simp only [hl6_1]); (try simp only [hl6_2]); (try simp only [hl6_3]); (with_reducible repeat (first | refine kN ?_ _ | refine kD ?_ | refine kA ?_ _)); exact BK159.out⟩, ⟨by repeat first | exact HB.out | apply bA | apply bN | apply bD | refine bS ?_ GE159.out | refine bS ?_ GE178.out⟩⟩
                      ·rw [if_neg c48] at H
                       exact absurd H (by simp)
                     ·rw [if_neg c47] at H
                      exact absurd H (by simp)
                    ·rw [if_neg c44] at H
                     exact absurd H (by simp)
                   ·rw [if_neg c43] at H
                    exact absurd H (by simp)
                  ·rw [if_neg c42] at H
                   exact absurd H (by simp)
                 ·rw [if_neg c41] at H
                  exact absurd H (by simp)
                ·rw [if_neg c40] at H
                 have c40b0 : decide (x57_3 < (t174.length : Int)) = false := decide_eq_false c40
                 (try (have c40m0 := c40b0; simp only [hl6_1] at c40m0)); (try (have c40m1 := c40b0; simp only [hl6_2] at c40m1)); (try (have c40m2 := c40b0; simp only [hl6_3] at c40m2))
                 clear c40
                 have H' := aM H
                 clear H
                 go_wp2
                 (try simp only [← hl6_2, ← hl6_3])
                 go_roundg k3
                 case measure => have := HK1.out; have := HK2.out; have := HK3.out; omega
                 case rel => exact ⟨(x6_3), (x8_3), (wrap64 (x9_2 + 1)), rfl, H', ⟨by have := HK1.out; have := HK2.out; have := HK3.out; omega⟩, ⟨by (try simp only [hl6_1]); (try simp only [hl6_2]); (try simp only [hl6_3]); (with_reducible repeat (first | apply rA | apply rN | apply rD)); exact HO_6.out⟩, ⟨by (try simp only [hl6_1]); (try simp only [hl6_2]); (try simp only [hl6_3]); (with_reducible repeat (first | apply rA | apply rN | apply rD)); exact HO_8.out⟩, ⟨by (try simp only [hl6_1]); (try simp only [hl6_2]); (try simp only [hl6_3]); (with_reducible repeat (first | refine kN ?_ _ | refine kD ?_ | refine kA ?_ _)); exact BK159.out⟩, ⟨by repeat first | exact HB.out | apply bA | apply bN | apply bD | refine bS ?_ GE159.out⟩⟩
             ·rw [if_neg c32] at H
              exact absurd H (by simp)
            ·rw [if_neg c31] at H
             exact absurd H (by simp)
           ·rw [if_neg c29] at H
            exact absurd H (by simp)
          ·rw [if_neg c28] at H
           have c28b0 : decide (x9_2 < (x8_2.length : Int)) = false := decide_eq_false c28
           (try (have c28m0 := c28b0; simp only [hl6_1] at c28m0)); (try (have c28m1 := c28b0; simp only [hl6_2] at c28m1))
           clear c28
           simp only [Option.some.injEq, Prod.mk.injEq] at H
           obtain ⟨rfl, rfl⟩ := H
           obtain ⟨Ao73, co73, eo73⟩ := Kd.R_slice HO_8.out
           subst eo73
           go_wp2
           go_ret2
           exact ⟨_, _, rfl, HO_6.out, HO_8.out, HB.out⟩
       ·rw [if_neg c20] at H
        exact absurd H (by simp)
      ·rw [if_neg c19] at H
       exact absurd H (by simp)
  ·rw [if_neg c5] at H
   exact absurd H (by simp)
 ·rw [if_neg c4] at H
  exact absurd H (by simp)

end Go.Proofs.Ytehhfcbhoaocdaa.PP
