-- written by a program of this session's (wip/tools), over the kit's print
import Derived.Test.YtehhfcbhoaocdaaPPx0
import Derived.Test.YtehhfcbhoaocdaaPPx1
import Derived.Test.YtehhfcbhoaocdaaPPx3
import Derived.Test.YtehhfcbhoaocdaaPPx4
-- squeezed
-- squeezed twice
namespace Go.Proofs.Ytehhfcbhoaocdaa.PP
open Go.RowKit Go.Proofs.YtehhfcbhoaocdaaW.PrintWords Go.Proofs.YtehhfcbhoaocdaaW.PrintLast Go.Proofs.YtehhfcbhoaocdaaW.PrintMore
attribute [local go_sem] max2_int min2_int max_two min_two max_three min_three max_four min_four   -- for this text's walks alone
set_option linter.unusedVariables false
set_option linter.unusedSimpArgs false

/-! ### spec_boPut: function 33 -/
def spec_boPut.j0 : Nat → ByteArray → Bool → List Int → List (S77) → Int → Int → Option (ByteArray × Bool)
 | 0, _, _, _, _, _, _ => none
 | k + 1, x1, x27, x147000, x147001, x148000, x148001 => if x27 = true then (some ((⟨#[]⟩ : ByteArray), false)) else (if 0 ≤ x148000 then (if x148000 < (x1.size : Int) then (if x148000 < (x147000.length : Int) then ((spec_l1In.f (wrap64 ((((bt x1 x148000) - 48) % 256) + x148001)) 0 (wrap64 ((rd x147000 x148000) - 1))).bind fun t150 => (if t150 = true then (if x148000 ≤ (x1.size : Int) then ((spec_l1Num.f k (wrap64 ((((bt x1 x148000) - 48) % 256) + x148001))).bind fun t151 => (if (x1.extract 0 (x148000 : Int).toNat).size + t151.size ≤ 9223372036854775807 then (if 0 ≤ (wrap64 (x148000 + 1)) then (if (wrap64 (x148000 + 1)) ≤ (x1.size : Int) then (if ((x1.extract 0 (x148000 : Int).toNat) ++ t151).size + (x1.extract ((wrap64 (x148000 + 1)) : Int).toNat x1.size).size ≤ 9223372036854775807 then ((spec_boFree.f k x147000 x147001 (((x1.extract 0 (x148000 : Int).toNat) ++ t151) ++ (x1.extract ((wrap64 (x148000 + 1)) : Int).toNat x1.size))).bind fun t152 => (some (((x1.extract 0 (x148000 : Int).toNat) ++ t151) ++ (x1.extract ((wrap64 (x148000 + 1)) : Int).toNat x1.size), t152))) else (none)) else (none)) else (none)) else (none))) else (none)) else (some ((⟨#[]⟩ : ByteArray), false)))) else (none)) else (none)) else (none))
def spec_boPut.f (k : Nat) (l0_0 : List Int) (l0_1 : List (S77)) (a1 : ByteArray) (a2_0 : Int) (a2_1 : Int) : Option (ByteArray × Bool) := (spec_l1In.f a2_0 0 (wrap64 ((l0_0.length : Int) - 1))).bind fun t148 => (if t148 = true then (if a2_1 = 1 then (spec_boPut.j0 k a1 false l0_0 l0_1 a2_0 a2_1) else (spec_boPut.j0 k a1 (a2_1 != (-1)) l0_0 l0_1 a2_0 a2_1)) else (spec_boPut.j0 k a1 true l0_0 l0_1 a2_0 a2_1))
theorem spec_boPut.mono_l : ∀ k, (∀ y0 y1 y2 y3 y4 y5, LeO (spec_boPut.j0 k y0 y1 y2 y3 y4 y5) (spec_boPut.j0 (k + 1) y0 y1 y2 y3 y4 y5))
 | 0 => fun _ _ _ _ _ _ r h => by simp [spec_boPut.j0] at h
 | k + 1 => by
  have ih0 := spec_boPut.mono_l k
  ·intro y0 y1 y2 y3 y4 y5
   unfold spec_boPut.j0
   repeat' first
   | (with_reducible exact ih0 _ _ _ _ _ _)
   | (with_reducible exact spec_boFree.mono _ _ _ _)
   | (with_reducible exact spec_l1Num.mono _ _)
   | (with_reducible exact LeO.refl _)
   | (with_reducible exact LeO.none _)
   | (with_reducible refine LeO.ite ?_ ?_)
   | (with_reducible refine LeO.bind ?_ (fun _ => ?_))
   | exact ih0 _ _ _ _ _ _
   | exact spec_boFree.mono _ _ _ _
   | exact spec_l1Num.mono _ _
   | exact LeO.none _
   | refine LeO.ite ?_ ?_
   | refine LeO.bind ?_ (fun _ => ?_)
theorem spec_boPut.mono : ∀ a0 a1 a2 a3 a4 k, LeO (spec_boPut.f k a0 a1 a2 a3 a4) (spec_boPut.f (k + 1) a0 a1 a2 a3 a4) := by
 intro a0 a1 a2 a3 a4 k
 have ih0 := spec_boPut.mono_l k
 unfold spec_boPut.f
 repeat' first
   | (with_reducible exact ih0 _ _ _ _ _ _)
   | (with_reducible exact spec_boFree.mono _ _ _ _)
   | (with_reducible exact spec_l1Num.mono _ _)
   | (with_reducible exact LeO.refl _)
   | (with_reducible exact LeO.none _)
   | (with_reducible refine LeO.ite ?_ ?_)
   | (with_reducible refine LeO.bind ?_ (fun _ => ?_))
   | exact ih0 _ _ _ _ _ _
   | exact spec_boFree.mono _ _ _ _
   | exact spec_l1Num.mono _ _
   | exact LeO.none _
   | refine LeO.ite ?_ ?_
   | refine LeO.bind ?_ (fun _ => ?_)
def spec_boPut.T3 : Bool × List (List Nat × List Nat) := (true, [([], []), ([], []), ([1], [1]), ([0, 2], [0, 2]), ([3], [3]), ([4], [4]), ([], []), ([6], [6]), ([5, 7], [5, 7]), ([8, 0, 1, 2, 3, 4, 5, 6, 7, 8], [8])])
def spec_boPut.B3 : List Nat := [0, 0, 2, 7, 15, 31, 0, 64, 255, 511]
theorem spec_boPut.tab3 : rtab .any (opsOf Try.f33 3) = spec_boPut.T3 := by kernel_rfl
theorem spec_boPut.bits3 : waitsOk spec_boPut.T3.2 spec_boPut.B3 = true := by kernel_rfl
def spec_boPut.T6 : Bool × List (List Nat × List Nat) := (true, [([], []), ([], []), ([1], [1]), ([0, 2], [0, 2]), ([], []), ([4], [4]), ([3, 5], [3, 5]), ([], []), ([], []), ([8], [8]), ([9], [9]), ([7, 10], [7, 10]), ([6, 11], [6, 11]), ([12, 5, 0, 1, 2, 3, 4, 5, 6, 7, 8, 9, 10, 11, 12], [12])])
def spec_boPut.B6 : List Nat := [0, 0, 2, 7, 0, 16, 63, 0, 0, 256, 768, 1920, 4095, 8191]
theorem spec_boPut.tab6 : rtab .any (opsOf Try.f33 6) = spec_boPut.T6 := by kernel_rfl
theorem spec_boPut.bits6 : waitsOk spec_boPut.T6.2 spec_boPut.B6 = true := by kernel_rfl
set_option maxHeartbeats 8000000 in
set_option maxRecDepth 100000 in
theorem spec_boPut.calls (k : Nat) (A0_0 : Option Addr) (c0_0 : Nat) (l0_0 : List Int) (A0_1 : Option Addr) (c0_1 : Nat) (l0_1 : List (S77)) (a1 : ByteArray) (a2_0 : Int) (a2_1 : Int) (r1 : ByteArray) (r2 : Bool) (w : World) (hr0_0 : Kd.C (Kd.int .i64) w A0_0 l0_0.length l0_0) (hc0_0 : l0_0.length ≤ c0_0) (hr0_1 : Kd.C k77 w A0_1 l0_1.length l0_1) (hc0_1 : l0_1.length ≤ c0_1) (h : spec_boPut.f k l0_0 l0_1 a1 a2_0 a2_1 = some (r1, r2)) :
  Calls Try.prog 33 #[.agg #[.slice A0_0 l0_0.length c0_0, .slice A0_1 l0_1.length c0_1], .string a1, .agg #[.int .i64 a2_0, .int .i64 a2_1]] w fun e w' => e = .returned (.tuple #[.string r1, .bool r2]) ∧ Below w.heap.size w w' := by
 have hu31 := Try.underlying31
 have hu62 := Try.underlying62
 have HR0_0 := aM hr0_0
 have HC0_0 := aM hc0_0
 clear hr0_0 hc0_0
 have HR0_1 := aM hr0_1
 have HC0_1 := aM hc0_1
 clear hr0_1 hc0_1
 have hbz0 : wrap64 ((bt a1 a2_0 - 48) % 256) = (bt a1 a2_0 - 48) % 256 := by unfold wrap64; omega
 have hby0 : wrap64 (IntKind.u8.wrap (bt a1 a2_0 - 48)) = (bt a1 a2_0 - 48) % 256 := hbz0
 have HB := aM (Below.refl w.heap.size w)
 have H : ((spec_l1In.f a2_0 0 (wrap64 ((l0_0.length : Int) - 1))).bind fun t148 => (if t148 = true then (if a2_1 = 1 then (spec_boPut.j0 k a1 false l0_0 l0_1 a2_0 a2_1) else (spec_boPut.j0 k a1 (a2_1 != (-1)) l0_0 l0_1 a2_0 a2_1)) else (spec_boPut.j0 k a1 true l0_0 l0_1 a2_0 a2_1))) = some (r1, r2) := h
 clear h
 have HC4 := aM H
 clear H
 go_enter Try.func33, Try.ntmps33
 go_upto_region 1 with (first | ((with_reducible refine gate_dst (N := 3) rfl ?_); refine box_event ?hg (N := 3) ?hd (cs := #[.slice A0_0 l0_0.length c0_0, .slice A0_1 l0_1.length c0_1]) (t := 31) ?hr ?_; (case hd => rfl); (case hg => rfl); (case hr => go_simp); intro gb146 hg w5 hbox hb; have BK146 := aM (hbox); have GW146 := aM ((by rw [hg]; exact (below_size (by repeat first | exact HB.out | apply bA | apply bN | apply bD)) : w.heap.size ≤ gb146)); replace HB := aM (below_step (by repeat first | exact HB.out | apply bA | apply bN | apply bD) hb); have GE146 := GW146; clear hb hbox hg) | ((with_reducible refine gate_dst (N := 5) rfl ?_); refine box_event ?hg (N := 5) ?hd (cs := #[.int .i64 a2_0, .int .i64 a2_1]) (t := 62) ?hr ?_; (case hd => rfl); (case hg => rfl); (case hr => go_simp); intro gb147 hg w6 hbox hb; have BK147 := aM (hbox); have GW147 := aM ((by rw [hg]; exact (below_size (by repeat first | exact HB.out | apply bA | apply bN | apply bD | refine bS ?_ GE146.out)) : w.heap.size ≤ gb147)); replace HB := aM (below_step (by repeat first | exact HB.out | apply bA | apply bN | apply bD | refine bS ?_ GE146.out) hb); have NB146_147 := aM ((by rw [hg]; exact Nat.ne_of_lt (blk_lt (g := gb146) (o := .cells #[.slice A0_0 l0_0.length c0_0, .slice A0_1 l0_1.length c0_1] 31 (0, 0)) (by repeat first | exact BK146.out | refine kN ?_ _ | refine kD ?_ | refine kA ?_ _)) : gb146 ≠ gb147)); have NB147_146 := aM ((by rw [hg]; exact Nat.ne_of_gt (blk_lt (g := gb146) (o := .cells #[.slice A0_0 l0_0.length c0_0, .slice A0_1 l0_1.length c0_1] 31 (0, 0)) (by repeat first | exact BK146.out | refine kN ?_ _ | refine kD ?_ | refine kA ?_ _)) : gb147 ≠ gb146)); replace BK146 := aM (blk_below (g := gb146) (o := .cells #[.slice A0_0 l0_0.length c0_0, .slice A0_1 l0_1.length c0_1] 31 (0, 0)) (by repeat first | exact BK146.out | refine kN ?_ _ | refine kD ?_ | refine kA ?_ _) hb); have GE147 := GW147; clear hb hbox hg))
 (try simp only [Act.put, sA, sB, sC])
 go_cut [27] (fun v27 wc => ∃ (kq : Nat) (x27_3 : Bool), v27 = .bool x27_3 ∧ Aside0 (spec_boPut.j0 kq a1 x27_3 l0_0 l0_1 a2_0 a2_1 = some (r1, r2)) ∧ Aside0 (kq ≤ k) ∧ Aside0 (wc.heap[gb146]? = some (.cells #[(.slice A0_0 l0_0.length c0_0), (.slice A0_1 l0_1.length c0_1)] 31 (0, 0))) ∧ Aside0 (wc.heap[gb147]? = some (.cells #[.int .i64 a2_0, .int .i64 a2_1] 62 (0, 0))) ∧ Aside0 (Below w.heap.size w wc))
 case first =>
  have H := HC4.out
  clear HC4
  replace H := Option.bind_eq_some_iff.mp H
  obtain ⟨t148, A70, H⟩ := H
  replace H : (if t148 = true then (if a2_1 = 1 then (spec_boPut.j0 k a1 false l0_0 l0_1 a2_0 a2_1) else (spec_boPut.j0 k a1 (a2_1 != (-1)) l0_0 l0_1 a2_0 a2_1)) else (spec_boPut.j0 k a1 true l0_0 l0_1 a2_0 a2_1)) = some (r1, r2) := H
  have A7 := aM A70
  clear A70
  by_cases c8 : t148 = true
  ·subst c8
   have H1 : (if a2_1 = 1 then (spec_boPut.j0 k a1 false l0_0 l0_1 a2_0 a2_1) else (spec_boPut.j0 k a1 (a2_1 != (-1)) l0_0 l0_1 a2_0 a2_1)) = some (r1, r2) := by rw [if_pos rfl] at H; exact H
   clear H; have H := H1; clear H1
   by_cases c9 : a2_1 = 1
   ·rw [if_pos c9] at H
    have c9b0 : (a2_1 == 1) = true := beq_iff_eq.mpr c9
    have c9b1 : (a2_1 != 1) = false := bne_eq_false_iff_eq.mpr c9
    clear c9
    (first | rw [c9b0] | (simp only [i64_w, i32_w]; rw [c9b0]) | skip)
    have H' := aM H
    clear H
    have hnb10 := NB147_146.out
    have hnc10 := NB146_147.out
    have hcz11_0 : w6.cell? ⟨gb147, 0, none⟩ = some (.int .i64 a2_0) := (blk_cell BK147.out 0).trans rfl
    have hcz11_1 : w6.cell? ⟨gb147, 1, none⟩ = some (.int .i64 a2_1) := (blk_cell BK147.out 1).trans rfl
    have hfz11_0 := blk_frozen BK147.out 0
    have hfz11_1 := blk_frozen BK147.out 1
    have hcz12_0 : w6.cell? ⟨gb146, 0, none⟩ = some (.slice A0_0 l0_0.length c0_0) := (blk_cell BK146.out 0).trans rfl
    have hcz12_1 : w6.cell? ⟨gb146, 1, none⟩ = some (.slice A0_1 l0_1.length c0_1) := (blk_cell BK146.out 1).trans rfl
    have hfz12_0 := blk_frozen BK146.out 0
    have hfz12_1 := blk_frozen BK146.out 1
    go_wp2_with (first | ((with_reducible refine gate_callee (f := 40) rfl ?_); refine goesL_ (some 16) rfl rfl Try.func40 (by kernel_rfl) rfl #[.int .i64 a2_0, .int .i64 0, .int .i64 (wrap64 ((l0_0.length : Int) - 1))] rfl (by simp only [mA, mB, mC]; all_goals rfl) ?_; (with_reducible refine (spec_l1In.calls a2_0 0 (wrap64 ((l0_0.length : Int) - 1)) true _ A7.out).mono ?_); rintro e w' ⟨rfl, ⟨nd, rfl⟩⟩; refine ⟨_, rfl, ?_⟩))
    go_meet
    case rel => exact ⟨_, (false), rfl, H', ⟨by omega⟩, ⟨by repeat first | exact BK146.out | refine kN ?_ _ | refine kD ?_ | refine kA ?_ _⟩, ⟨by repeat first | exact BK147.out | refine kN ?_ _ | refine kD ?_ | refine kA ?_ _⟩, ⟨by repeat first | exact HB.out | apply bA | apply bN | apply bD | refine bS ?_ GE146.out | refine bS ?_ GE147.out⟩⟩
   ·rw [if_neg c9] at H
    have c9b0 : (a2_1 == 1) = false := beq_eq_false_iff_ne.mpr c9
    have c9b1 : (a2_1 != 1) = true := bne_iff_ne.mpr c9
    (first | rw [c9b0] | (simp only [i64_w, i32_w]; rw [c9b0]) | skip)
    have H' := aM H
    clear H
    have hnb13 := NB147_146.out
    have hnc13 := NB146_147.out
    have hcz14_0 : w6.cell? ⟨gb147, 0, none⟩ = some (.int .i64 a2_0) := (blk_cell BK147.out 0).trans rfl
    have hcz14_1 : w6.cell? ⟨gb147, 1, none⟩ = some (.int .i64 a2_1) := (blk_cell BK147.out 1).trans rfl
    have hfz14_0 := blk_frozen BK147.out 0
    have hfz14_1 := blk_frozen BK147.out 1
    have hcz15_0 : w6.cell? ⟨gb146, 0, none⟩ = some (.slice A0_0 l0_0.length c0_0) := (blk_cell BK146.out 0).trans rfl
    have hcz15_1 : w6.cell? ⟨gb146, 1, none⟩ = some (.slice A0_1 l0_1.length c0_1) := (blk_cell BK146.out 1).trans rfl
    have hfz15_0 := blk_frozen BK146.out 0
    have hfz15_1 := blk_frozen BK146.out 1
    go_wp2_with (first | ((with_reducible refine gate_callee (f := 40) rfl ?_); refine goesL_ (some 16) rfl rfl Try.func40 (by kernel_rfl) rfl #[.int .i64 a2_0, .int .i64 0, .int .i64 (wrap64 ((l0_0.length : Int) - 1))] rfl (by simp only [mA, mB, mC]; all_goals rfl) ?_; (with_reducible refine (spec_l1In.calls a2_0 0 (wrap64 ((l0_0.length : Int) - 1)) true _ A7.out).mono ?_); rintro e w' ⟨rfl, ⟨nd, rfl⟩⟩; refine ⟨_, rfl, ?_⟩))
    go_meet
    case rel => exact ⟨_, ((a2_1 != (-1))), rfl, H', ⟨by omega⟩, ⟨by repeat first | exact BK146.out | refine kN ?_ _ | refine kD ?_ | refine kA ?_ _⟩, ⟨by repeat first | exact BK147.out | refine kN ?_ _ | refine kD ?_ | refine kA ?_ _⟩, ⟨by repeat first | exact HB.out | apply bA | apply bN | apply bD | refine bS ?_ GE146.out | refine bS ?_ GE147.out⟩⟩
  ·replace c8 := Bool.eq_false_iff.mpr c8
   subst c8
   have H1 : (spec_boPut.j0 k a1 true l0_0 l0_1 a2_0 a2_1) = some (r1, r2) := by rw [if_neg (show ¬ (false = true) by decide)] at H; exact H
   clear H; have H := H1; clear H1
   have H' := aM H
   clear H
   have hnb16 := NB147_146.out
   have hnc16 := NB146_147.out
   have hcz17_0 : w6.cell? ⟨gb147, 0, none⟩ = some (.int .i64 a2_0) := (blk_cell BK147.out 0).trans rfl
   have hcz17_1 : w6.cell? ⟨gb147, 1, none⟩ = some (.int .i64 a2_1) := (blk_cell BK147.out 1).trans rfl
   have hfz17_0 := blk_frozen BK147.out 0
   have hfz17_1 := blk_frozen BK147.out 1
   have hcz18_0 : w6.cell? ⟨gb146, 0, none⟩ = some (.slice A0_0 l0_0.length c0_0) := (blk_cell BK146.out 0).trans rfl
   have hcz18_1 : w6.cell? ⟨gb146, 1, none⟩ = some (.slice A0_1 l0_1.length c0_1) := (blk_cell BK146.out 1).trans rfl
   have hfz18_0 := blk_frozen BK146.out 0
   have hfz18_1 := blk_frozen BK146.out 1
   go_wp2_with (first | ((with_reducible refine gate_callee (f := 40) rfl ?_); refine goesL_ (some 16) rfl rfl Try.func40 (by kernel_rfl) rfl #[.int .i64 a2_0, .int .i64 0, .int .i64 (wrap64 ((l0_0.length : Int) - 1))] rfl (by simp only [mA, mB, mC]; all_goals rfl) ?_; (with_reducible refine (spec_l1In.calls a2_0 0 (wrap64 ((l0_0.length : Int) - 1)) false _ A7.out).mono ?_); rintro e w' ⟨rfl, ⟨nd, rfl⟩⟩; refine ⟨_, rfl, ?_⟩))
   go_meet
   case rel => exact ⟨_, (true), rfl, H', ⟨by omega⟩, ⟨by repeat first | exact BK146.out | refine kN ?_ _ | refine kD ?_ | refine kA ?_ _⟩, ⟨by repeat first | exact BK147.out | refine kN ?_ _ | refine kD ?_ | refine kA ?_ _⟩, ⟨by repeat first | exact HB.out | apply bA | apply bN | apply bD | refine bS ?_ GE146.out | refine bS ?_ GE147.out⟩⟩
 case rest =>
  clear HC4
  try clear c1
  try clear p2
  try clear c3
  try clear c4
  try clear p6
  try clear c8
  try clear c9
  try clear c9b0
  try clear c9b1
  try clear c10
  try clear c13
  try clear c16
  try clear hcz11_0
  try clear hcz11_1
  try clear hcz12_0
  try clear hcz12_1
  try clear hcz14_0
  try clear hcz14_1
  try clear hcz15_0
  try clear hcz15_1
  try clear hcz17_0
  try clear hcz17_1
  try clear hcz18_0
  try clear hcz18_1
  try clear hfz11_0
  try clear hfz11_1
  try clear hfz12_0
  try clear hfz12_1
  try clear hfz14_0
  try clear hfz14_1
  try clear hfz15_0
  try clear hfz15_1
  try clear hfz17_0
  try clear hfz17_1
  try clear hfz18_0
  try clear hfz18_1
  obtain ⟨kq, x27_3, rfl, HA, HJ3, BK146, BK147, HB⟩ := hcut
  cases kq with
  | zero => exact absurd HA.out (by simp [spec_boPut.j0])
  | succ kj3 =>
   have H := HA.out
   clear HA
   simp only [spec_boPut.j0] at H
   by_cases c19 : x27_3 = true
   ·subst c19
    have H1 : (some ((⟨#[]⟩ : ByteArray), false)) = some (r1, r2) := by rw [if_pos rfl] at H; exact H
    clear H; have H := H1; clear H1
    simp only [Option.some.injEq, Prod.mk.injEq] at H
    obtain ⟨rfl, rfl⟩ := H
    go_wp2
    go_ret2
    exact ⟨rfl, by repeat first | exact HB.out | apply bA | apply bN | apply bD | refine bS ?_ GE146.out | refine bS ?_ GE147.out⟩
   ·replace c19 := Bool.eq_false_iff.mpr c19
    subst c19
    have H1 : (if 0 ≤ a2_0 then (if a2_0 < (a1.size : Int) then (if a2_0 < (l0_0.length : Int) then ((spec_l1In.f (wrap64 ((((bt a1 a2_0) - 48) % 256) + a2_1)) 0 (wrap64 ((rd l0_0 a2_0) - 1))).bind fun t150 => (if t150 = true then (if a2_0 ≤ (a1.size : Int) then ((spec_l1Num.f kj3 (wrap64 ((((bt a1 a2_0) - 48) % 256) + a2_1))).bind fun t151 => (if (a1.extract 0 (a2_0 : Int).toNat).size + t151.size ≤ 9223372036854775807 then (if 0 ≤ (wrap64 (a2_0 + 1)) then (if (wrap64 (a2_0 + 1)) ≤ (a1.size : Int) then (if ((a1.extract 0 (a2_0 : Int).toNat) ++ t151).size + (a1.extract ((wrap64 (a2_0 + 1)) : Int).toNat a1.size).size ≤ 9223372036854775807 then ((spec_boFree.f kj3 l0_0 l0_1 (((a1.extract 0 (a2_0 : Int).toNat) ++ t151) ++ (a1.extract ((wrap64 (a2_0 + 1)) : Int).toNat a1.size))).bind fun t152 => (some (((a1.extract 0 (a2_0 : Int).toNat) ++ t151) ++ (a1.extract ((wrap64 (a2_0 + 1)) : Int).toNat a1.size), t152))) else (none)) else (none)) else (none)) else (none))) else (none)) else (some ((⟨#[]⟩ : ByteArray), false)))) else (none)) else (none)) else (none)) = some (r1, r2) := by rw [if_neg (show ¬ (false = true) by decide)] at H; exact H
    clear H; have H := H1; clear H1
    by_cases c20 : 0 ≤ a2_0
    ·rw [if_pos c20] at H
     have c20b0 : decide (0 ≤ a2_0) = true := decide_eq_true c20
     clear c20
     by_cases c21 : a2_0 < (a1.size : Int)
     ·rw [if_pos c21] at H
      have c21b0 : decide (a2_0 < (a1.size : Int)) = true := decide_eq_true c21
      clear c21
      by_cases c23 : a2_0 < (l0_0.length : Int)
      ·rw [if_pos c23] at H
       have c23b0 : decide (a2_0 < (l0_0.length : Int)) = true := decide_eq_true c23
       clear c23
       replace H := Option.bind_eq_some_iff.mp H
       obtain ⟨t150, A240, H⟩ := H
       replace H : (if t150 = true then (if a2_0 ≤ (a1.size : Int) then ((spec_l1Num.f kj3 (wrap64 ((((bt a1 a2_0) - 48) % 256) + a2_1))).bind fun t151 => (if (a1.extract 0 (a2_0 : Int).toNat).size + t151.size ≤ 9223372036854775807 then (if 0 ≤ (wrap64 (a2_0 + 1)) then (if (wrap64 (a2_0 + 1)) ≤ (a1.size : Int) then (if ((a1.extract 0 (a2_0 : Int).toNat) ++ t151).size + (a1.extract ((wrap64 (a2_0 + 1)) : Int).toNat a1.size).size ≤ 9223372036854775807 then ((spec_boFree.f kj3 l0_0 l0_1 (((a1.extract 0 (a2_0 : Int).toNat) ++ t151) ++ (a1.extract ((wrap64 (a2_0 + 1)) : Int).toNat a1.size))).bind fun t152 => (some (((a1.extract 0 (a2_0 : Int).toNat) ++ t151) ++ (a1.extract ((wrap64 (a2_0 + 1)) : Int).toNat a1.size), t152))) else (none)) else (none)) else (none)) else (none))) else (none)) else (some ((⟨#[]⟩ : ByteArray), false))) = some (r1, r2) := H
       have A24 := aM A240
       clear A240
       by_cases c25 : t150 = true
       ·subst c25
        have H1 : (if a2_0 ≤ (a1.size : Int) then ((spec_l1Num.f kj3 (wrap64 ((((bt a1 a2_0) - 48) % 256) + a2_1))).bind fun t151 => (if (a1.extract 0 (a2_0 : Int).toNat).size + t151.size ≤ 9223372036854775807 then (if 0 ≤ (wrap64 (a2_0 + 1)) then (if (wrap64 (a2_0 + 1)) ≤ (a1.size : Int) then (if ((a1.extract 0 (a2_0 : Int).toNat) ++ t151).size + (a1.extract ((wrap64 (a2_0 + 1)) : Int).toNat a1.size).size ≤ 9223372036854775807 then ((spec_boFree.f kj3 l0_0 l0_1 (((a1.extract 0 (a2_0 : Int).toNat) ++ t151) ++ (a1.extract ((wrap64 (a2_0 + 1)) : Int).toNat a1.size))).bind fun t152 => (some (((a1.extract 0 (a2_0 : Int).toNat) ++ t151) ++ (a1.extract ((wrap64 (a2_0 + 1)) : Int).toNat a1.size), t152))) else (none)) else (none)) else (none)) else (none))) else (none)) = some (r1, r2) := by rw [if_pos rfl] at H; exact H
        clear H; have H := H1; clear H1
        have c26b0 := eq_true (oT (by assumption) : 0 ≤ a2_0)
        by_cases c27 : a2_0 ≤ (a1.size : Int)
        ·rw [if_pos c27] at H
         have c27b0 := eq_true c27
         have c27b1 : decide (a2_0 ≤ (a1.size : Int)) = true := decide_eq_true c27
         clear c27
         replace H := Option.bind_eq_some_iff.mp H
         obtain ⟨t151, A280, H⟩ := H
         replace H : (if (a1.extract 0 (a2_0 : Int).toNat).size + t151.size ≤ 9223372036854775807 then (if 0 ≤ (wrap64 (a2_0 + 1)) then (if (wrap64 (a2_0 + 1)) ≤ (a1.size : Int) then (if ((a1.extract 0 (a2_0 : Int).toNat) ++ t151).size + (a1.extract ((wrap64 (a2_0 + 1)) : Int).toNat a1.size).size ≤ 9223372036854775807 then ((spec_boFree.f kj3 l0_0 l0_1 (((a1.extract 0 (a2_0 : Int).toNat) ++ t151) ++ (a1.extract ((wrap64 (a2_0 + 1)) : Int).toNat a1.size))).bind fun t152 => (some (((a1.extract 0 (a2_0 : Int).toNat) ++ t151) ++ (a1.extract ((wrap64 (a2_0 + 1)) : Int).toNat a1.size), t152))) else (none)) else (none)) else (none)) else (none)) = some (r1, r2) := H
         have A28 := aM A280
         clear A280
         by_cases c29 : (a1.extract 0 (a2_0 : Int).toNat).size + t151.size ≤ 9223372036854775807
         ·rw [if_pos c29] at H
          have c29b0 := eq_true c29
          have c29b1 : decide ((a1.extract 0 (a2_0 : Int).toNat).size + t151.size ≤ 9223372036854775807) = true := decide_eq_true c29
          try (have c29s := c29; simp at c29s)
          try (have c29x : a2_0.toNat + t151.size ≤ 9223372036854775807 := (by have h_ := c29; have q0_ : a2_0 ≤ (a1.size : Int) := (by first | assumption | exact of_eq_true (by assumption) | exact oT (by assumption)); have r0_ : 0 ≤ (a2_0 : Int) := (by first | assumption | exact of_eq_true (by assumption) | exact oT (by assumption)); simp only [ByteArray.size_append, ByteArray.size_extract] at h_; omega))
          try (have c29y : (9223372036854775807 < a2_0.toNat + t151.size) = False := eq_false (Nat.not_lt.2 c29x))
          try have c29b2 : (9223372036854775807 < (a1.extract 0 (a2_0 : Int).toNat).size + t151.size) = False := eq_false (Nat.not_lt.2 c29)
          obtain ⟨ji30, hji30⟩ : ∃ j_ : Int, (wrap64 (a2_0 + 1)) = j_ := ⟨_, rfl⟩
          replace H : (if 0 ≤ (ji30) then (if (ji30) ≤ (a1.size : Int) then (if ((a1.extract 0 (a2_0 : Int).toNat) ++ t151).size + (a1.extract ((ji30) : Int).toNat a1.size).size ≤ 9223372036854775807 then ((spec_boFree.f kj3 l0_0 l0_1 (((a1.extract 0 (a2_0 : Int).toNat) ++ t151) ++ (a1.extract ((ji30) : Int).toNat a1.size))).bind fun t152 => (some (((a1.extract 0 (a2_0 : Int).toNat) ++ t151) ++ (a1.extract ((ji30) : Int).toNat a1.size), t152))) else (none)) else (none)) else (none)) = some (r1, r2) := by first | (rw [hji30] at H; exact H) | (simp only [hji30] at H ⊢; exact H)
          (try rw [hji30] at A24)
          (try rw [hji30] at A28)
          have hji30w : (IntKind.i64.wrap (a2_0 + 1)) = ji30 := (i64_w _).trans hji30
          by_cases c31 : 0 ≤ (ji30)
          ·rw [if_pos c31] at H
           have c31b0 := eq_true c31
           have c31b1 : decide (0 ≤ (ji30)) = true := decide_eq_true c31
           clear c31
           by_cases c32 : (ji30) ≤ (a1.size : Int)
           ·rw [if_pos c32] at H
            have c32b0 := eq_true c32
            have c32b1 : decide ((ji30) ≤ (a1.size : Int)) = true := decide_eq_true c32
            clear c32
            by_cases c33 : ((a1.extract 0 (a2_0 : Int).toNat) ++ t151).size + (a1.extract ((ji30) : Int).toNat a1.size).size ≤ 9223372036854775807
            ·rw [if_pos c33] at H
             have c33b0 := eq_true c33
             have c33b1 : decide (((a1.extract 0 (a2_0 : Int).toNat) ++ t151).size + (a1.extract ((ji30) : Int).toNat a1.size).size ≤ 9223372036854775807) = true := decide_eq_true c33
             try (have c33s := c33; simp at c33s)
             try (have c33x : a2_0.toNat + t151.size + (a1.size - ji30.toNat) ≤ 9223372036854775807 := (by have h_ := c33; have q0_ : a2_0 ≤ (a1.size : Int) := (by first | assumption | exact of_eq_true (by assumption) | exact oT (by assumption)); have r0_ : 0 ≤ (a2_0 : Int) := (by first | assumption | exact of_eq_true (by assumption) | exact oT (by assumption)); have q1_ : ji30 ≤ (a1.size : Int) := (by first | assumption | exact of_eq_true (by assumption) | exact oT (by assumption)); have r1_ : 0 ≤ (ji30 : Int) := (by first | assumption | exact of_eq_true (by assumption) | exact oT (by assumption)); simp only [ByteArray.size_append, ByteArray.size_extract] at h_; omega))
             try (have c33y : (9223372036854775807 < a2_0.toNat + t151.size + (a1.size - ji30.toNat)) = False := eq_false (Nat.not_lt.2 c33x))
             try have c33b2 : (9223372036854775807 < ((a1.extract 0 (a2_0 : Int).toNat) ++ t151).size + (a1.extract ((ji30) : Int).toNat a1.size).size) = False := eq_false (Nat.not_lt.2 c33)
             replace H := Option.bind_eq_some_iff.mp H
             obtain ⟨t152, A340, H⟩ := H
             replace H : (some (((a1.extract 0 (a2_0 : Int).toNat) ++ t151) ++ (a1.extract ((ji30) : Int).toNat a1.size), t152)) = some (r1, r2) := H
             have A34 := aM A340
             clear A340
             simp only [Option.some.injEq, Prod.mk.injEq] at H
             obtain ⟨rfl, rfl⟩ := H
             try go_wp2
             have n0_ := aM (blk_drew BK146.out)
             have n1_ := aM (blk_drew BK147.out)
             have n2_ := aM (below_drew1 HB.out)
             clear BK146 BK147 HB
             have BK146 := n0_
             have BK147 := n1_
             have HB := n2_
             clear n0_ n1_ n2_
             have p22 : 0 ≤ (a2_0 : Int) := oT (by assumption)
             have q22 : a2_0 < (a1.size : Int) := oT (by assumption)
             have hx22 := bt_at a1 a2_0
             replace p22 := eq_true p22
             replace q22 := eq_true q22
             refine start_ (n := 10) (S := fun w' => w'.cell? ⟨gb147, 0, none⟩ = some (.int .i64 a2_0) ∧ w'.cell? ⟨gb147, 1, none⟩ = some (.int .i64 a2_1)) (ds := []) #[F,F,F,F,F,F,F,F,F,F] (by kernel_rfl) rfl rfl ⟨(blk_cell BK147.out 0).trans rfl, (blk_cell BK147.out 1).trans rfl⟩ (fun hHeld => ?_); refine with_tabW spec_boPut.tab3 spec_boPut.bits3 (fun HT_ HW_ => ?_)
             generalize wc.drew = w35 at BK146 BK147 HB hHeld ⊢
             refine pure_ (i := 0) (N := some 28) (v := ?_) (a' := ?_) #[T,F,F,F,F,F,F,F,F,F] rfl rfl (any_of HT_.out (by kernel_rfl)) (fun _ _ _ h => h) (Or.inl ⟨by rfl, ?_⟩) ?_ ?_; rotate_left; (next => intro w'; go_simp; with_reducible rfl); rotate_left; next => simp only [Act.put, sA, sB, sC, i64_w, i32_w]; rfl
             refine pure_ (i := 1) (N := some 29) (v := ?_) (a' := ?_) #[T,T,F,F,F,F,F,F,F,F] rfl rfl (any_of HT_.out (by kernel_rfl)) (fun _ _ _ h => h) (Or.inl ⟨by rfl, ?_⟩) ?_ ?_; rotate_left; (next => intro w'; go_simp; with_reducible rfl); rotate_left; next => simp only [Act.put, sA, sB, sC, i64_w, i32_w]; rfl
             refine pure_ (i := 6) (N := some 34) (v := ?_) (a' := ?_) #[T,T,F,F,F,F,T,F,F,F] rfl rfl (any_of HT_.out (by kernel_rfl)) (fun _ _ _ h => h) (Or.inl ⟨by rfl, ?_⟩) ?_ ?_; rotate_left; (next => intro w'; go_simp; with_reducible rfl); rotate_left; next => simp only [Act.put, sA, sB, sC, i64_w, i32_w]; rfl
             refine take_ (i := 2) (N := some 30) (v := ?_) (a' := ?_) #[T,T,T,F,F,F,T,F,F,F] rfl rfl (take_ofW HT_.out HW_.out (by kernel_rfl)) (fun _ _ _ h => h) (Or.inl ⟨by rfl, ?_⟩) hHeld ?_ ?_
             rotate_left
             ·rintro w' ⟨s0, s1⟩
              go_simp
              with_reducible rfl
             rotate_left
             ·simp only [Act.put, sA, sB, sC, i64_w, i32_w]
              rfl
             refine take_ (i := 3) (N := some 31) (v := ?_) (a' := ?_) #[T,T,T,T,F,F,T,F,F,F] rfl rfl (take_ofW HT_.out HW_.out (by kernel_rfl)) (fun _ _ _ h => h) (Or.inl ⟨by rfl, ?_⟩) hHeld ?_ ?_
             rotate_left
             ·rintro w' ⟨s0, s1⟩
              go_simp
              with_reducible rfl
             rotate_left
             ·simp only [Act.put, sA, sB, sC, i64_w, i32_w]
              rfl
             refine pure_ (i := 4) (N := some 32) (v := ?_) (a' := ?_) #[T,T,T,T,T,F,T,F,F,F] rfl rfl (any_of HT_.out (by kernel_rfl)) (fun _ _ _ h => h) (Or.inl ⟨by rfl, ?_⟩) ?_ ?_; rotate_left; (next => intro w'; go_simp; with_reducible rfl); rotate_left; next => simp only [Act.put, sA, sB, sC, i64_w, i32_w]; rfl
             refine pure_ (i := 5) (N := some 33) (v := ?_) (a' := ?_) #[T,T,T,T,T,T,T,F,F,F] rfl rfl (any_of HT_.out (by kernel_rfl)) (fun _ _ _ h => h) (Or.inl ⟨by rfl, ?_⟩) ?_ ?_; rotate_left; (next => intro w'; go_simp; with_reducible rfl); rotate_left; next => simp only [Act.put, sA, sB, sC, i64_w, i32_w]; rfl
             refine take_ (i := 7) (N := some 35) (v := ?_) (a' := ?_) #[T,T,T,T,T,T,T,T,F,F] rfl rfl (take_ofW HT_.out HW_.out (by kernel_rfl)) (fun _ _ _ h => h) (Or.inl ⟨by rfl, ?_⟩) hHeld ?_ ?_
             rotate_left
             ·rintro w' ⟨s0, s1⟩
              go_simp
              with_reducible rfl
             rotate_left
             ·simp only [Act.put, sA, sB, sC, i64_w, i32_w]
              rfl
             refine pure_ (i := 8) (N := some 36) (v := ?_) (a' := ?_) #[T,T,T,T,T,T,T,T,T,F] rfl rfl (any_of HT_.out (by kernel_rfl)) (fun _ _ _ h => h) (Or.inl ⟨by rfl, ?_⟩) ?_ ?_; rotate_left; (next => intro w'; go_simp; with_reducible rfl); rotate_left; next => simp only [Act.put, sA, sB, sC, i64_w, i32_w]; rfl
             refine pure_ (i := 9) (N := some 8) (v := ?_) (a' := ?_) #[T,T,T,T,T,T,T,T,T,T] rfl rfl (any_of HT_.out (by kernel_rfl)) (fun _ _ _ h => h) (Or.inl ⟨by rfl, ?_⟩) ?_ ?_; rotate_left; (next => intro w'; go_simp; with_reducible rfl); rotate_left; next => simp only [Act.put, sA, sB, sC, i64_w, i32_w]; rfl
             refine done_ (done_of HT_.out (by kernel_rfl)) ?_
             have hnb36 := NB146_147.out
             have hnc36 := NB147_146.out
             have hcz37_0 : w35.cell? ⟨gb146, 0, none⟩ = some (.slice A0_0 l0_0.length c0_0) := (blk_cell BK146.out 0).trans rfl
             have hcz37_1 : w35.cell? ⟨gb146, 1, none⟩ = some (.slice A0_1 l0_1.length c0_1) := (blk_cell BK146.out 1).trans rfl
             have hfz37_0 := blk_frozen BK146.out 0
             have hfz37_1 := blk_frozen BK146.out 1
             have hcz38_0 : w35.cell? ⟨gb147, 0, none⟩ = some (.int .i64 a2_0) := (blk_cell BK147.out 0).trans rfl
             have hcz38_1 : w35.cell? ⟨gb147, 1, none⟩ = some (.int .i64 a2_1) := (blk_cell BK147.out 1).trans rfl
             have hfz38_0 := blk_frozen BK147.out 0
             have hfz38_1 := blk_frozen BK147.out 1
             have p149 : 0 ≤ (a2_0 : Int) := oT (by assumption)
             have q149 : a2_0 < (l0_0.length : Int) := oT (by assumption)
             obtain ⟨ad149, e149, hx149_0⟩ := Kd.at_int HR0_0.out a2_0 p149 q149
             cases e149
             replace hx149_0 := (HB.out.cell (World.block_lt_of_cell? w _ hx149_0)).trans hx149_0
             replace p149 := eq_true p149
             replace q149 := eq_true q149
             try go_wp2_with (first | ((with_reducible refine gate_callee (f := 40) rfl ?_); refine goesL_ (some 45) rfl rfl Try.func40 (by kernel_rfl) rfl #[.int .i64 (wrap64 ((((bt a1 a2_0) - 48) % 256) + a2_1)), .int .i64 0, .int .i64 (wrap64 ((rd l0_0 a2_0) - 1))] rfl (by simp only [mA, mB, mC]; all_goals rfl) ?_; (with_reducible refine (spec_l1In.calls (wrap64 ((((bt a1 a2_0) - 48) % 256) + a2_1)) 0 (wrap64 ((rd l0_0 a2_0) - 1)) true _ A24.out).mono ?_); rintro e w' ⟨rfl, ⟨nd, rfl⟩⟩; refine ⟨_, rfl, ?_⟩))
             (try (rw [drewN_self w35]; generalize hq_ : World.drewN w35 _ = w35; have n0_ : Aside0 (w35.heap[gb146]? = some (.cells #[.slice (some ad149) l0_0.length c0_0, .slice A0_1 l0_1.length c0_1] 31 (0, 0))) := ⟨by rw [← hq_]; exact (by repeat first | exact BK146.out | refine kN ?_ _ | refine kD ?_ | refine kA ?_ _)⟩; have n1_ : Aside0 (w35.heap[gb147]? = some (.cells #[.int .i64 a2_0, .int .i64 a2_1] 62 (0, 0))) := ⟨by rw [← hq_]; exact (by repeat first | exact BK147.out | refine kN ?_ _ | refine kD ?_ | refine kA ?_ _)⟩; have n2_ : Aside0 (Below w.heap.size w w35) := ⟨by rw [← hq_]; exact (by repeat first | exact HB.out | apply bA | apply bN | apply bD | refine bS ?_ GE146.out | refine bS ?_ GE147.out)⟩; clear BK146 BK147 HB hq_; have BK146 := n0_; have BK147 := n1_; have HB := n2_; clear n0_ n1_ n2_))
             have n0_ := aM (blk_drew BK146.out)
             have n1_ := aM (blk_drew BK147.out)
             have n2_ := aM (below_drew1 HB.out)
             clear BK146 BK147 HB
             have BK146 := n0_
             have BK147 := n1_
             have HB := n2_
             clear n0_ n1_ n2_
             refine start_ (n := 14) (S := fun w' => w'.cell? ⟨gb147, 0, none⟩ = some (.int .i64 a2_0) ∧ w'.cell? ⟨gb147, 1, none⟩ = some (.int .i64 a2_1)) (ds := []) #[F,F,F,F,F,F,F,F,F,F,F,F,F,F] (by kernel_rfl) rfl rfl ⟨(blk_cell BK147.out 0).trans rfl, (blk_cell BK147.out 1).trans rfl⟩ (fun hHeld => ?_); refine with_tabW spec_boPut.tab6 spec_boPut.bits6 (fun HT_ HW_ => ?_)
             generalize w35.drew = w39 at BK146 BK147 HB hHeld ⊢
             refine pure_ (i := 0) (N := some 47) (v := ?_) (a' := ?_) #[T,F,F,F,F,F,F,F,F,F,F,F,F,F] rfl rfl (any_of HT_.out (by kernel_rfl)) (fun _ _ _ h => h) (Or.inl ⟨by rfl, ?_⟩) ?_ ?_; rotate_left; (next => intro w'; go_simp; with_reducible rfl); rotate_left; next => simp only [Act.put, sA, sB, sC, i64_w, i32_w]; rfl
             refine pure_ (i := 1) (N := some 48) (v := ?_) (a' := ?_) #[T,T,F,F,F,F,F,F,F,F,F,F,F,F] rfl rfl (any_of HT_.out (by kernel_rfl)) (fun _ _ _ h => h) (Or.inl ⟨by rfl, ?_⟩) ?_ ?_; rotate_left; (next => intro w'; go_simp; with_reducible rfl); rotate_left; next => simp only [Act.put, sA, sB, sC, i64_w, i32_w]; rfl
             refine pure_ (i := 4) (N := some 51) (v := ?_) (a' := ?_) #[T,T,F,F,T,F,F,F,F,F,F,F,F,F] rfl rfl (any_of HT_.out (by kernel_rfl)) (fun _ _ _ h => h) (Or.inl ⟨by rfl, ?_⟩) ?_ ?_; rotate_left; (next => intro w'; go_simp; with_reducible rfl); rotate_left; next => simp only [Act.put, sA, sB, sC, i64_w, i32_w]; rfl
             refine pure_ (i := 7) (N := some 54) (v := ?_) (a' := ?_) #[T,T,F,F,T,F,F,T,F,F,F,F,F,F] rfl rfl (any_of HT_.out (by kernel_rfl)) (fun _ _ _ h => h) (Or.inl ⟨by rfl, ?_⟩) ?_ ?_; rotate_left; (next => intro w'; go_simp; with_reducible rfl); rotate_left; next => simp only [Act.put, sA, sB, sC, i64_w, i32_w]; rfl
             refine pure_ (i := 8) (N := some 55) (v := ?_) (a' := ?_) #[T,T,F,F,T,F,F,T,T,F,F,F,F,F] rfl rfl (any_of HT_.out (by kernel_rfl)) (fun _ _ _ h => h) (Or.inl ⟨by rfl, ?_⟩) ?_ ?_; rotate_left; (next => intro w'; go_simp; with_reducible rfl); rotate_left; next => simp only [Act.put, sA, sB, sC, i64_w, i32_w]; rfl
             refine take_ (i := 2) (N := some 49) (v := ?_) (a' := ?_) #[T,T,T,F,T,F,F,T,T,F,F,F,F,F] rfl rfl (take_ofW HT_.out HW_.out (by kernel_rfl)) (fun _ _ _ h => h) (Or.inl ⟨by rfl, ?_⟩) hHeld ?_ ?_
             rotate_left
             ·rintro w' ⟨s0, s1⟩
              go_simp
              with_reducible rfl
             rotate_left
             ·simp only [Act.put, sA, sB, sC, i64_w, i32_w]
              rfl
             refine pure_ (i := 3) (N := some 50) (v := ?_) (a' := ?_) #[T,T,T,T,T,F,F,T,T,F,F,F,F,F] rfl rfl (any_of HT_.out (by kernel_rfl)) (fun _ _ _ h => h) (Or.inl ⟨by rfl, ?_⟩) ?_ ?_; rotate_left; (next => intro w'; go_simp; with_reducible rfl); rotate_left; next => simp only [Act.put, sA, sB, sC, i64_w, i32_w]; rfl
             refine take_ (i := 9) (N := some 56) (v := ?_) (a' := ?_) #[T,T,T,T,T,F,F,T,T,T,F,F,F,F] rfl rfl (take_ofW HT_.out HW_.out (by kernel_rfl)) (fun _ _ _ h => h) (Or.inl ⟨by rfl, ?_⟩) hHeld ?_ ?_
             rotate_left
             ·rintro w' ⟨s0, s1⟩
              go_simp
              with_reducible rfl
             rotate_left
             ·simp only [Act.put, sA, sB, sC, i64_w, i32_w]
              rfl
             refine pure_ (i := 10) (N := some 57) (v := ?_) (a' := ?_) #[T,T,T,T,T,F,F,T,T,T,T,F,F,F] rfl rfl (any_of HT_.out (by kernel_rfl)) (fun _ _ _ h => h) (Or.inl ⟨by rfl, ?_⟩) ?_ ?_; rotate_left; (next => intro w'; go_simp; with_reducible rfl); rotate_left; next => simp only [Act.put, sA, sB, sC, i64_w, i32_w]; rfl
             refine pure_ (i := 11) (N := some 58) (v := ?_) (a' := ?_) #[T,T,T,T,T,F,F,T,T,T,T,T,F,F] rfl rfl (any_of HT_.out (by kernel_rfl)) (fun _ _ _ h => h) (Or.inl ⟨by rfl, ?_⟩) ?_ ?_; rotate_left; (next => intro w'; go_simp; with_reducible rfl); rotate_left; next => simp only [Act.put, sA, sB, sC, i64_w, i32_w]; rfl
             refine one_ (i := 5) (N := some 52) #[T,T,T,T,T,T,F,T,T,T,T,T,F,F] rfl rfl (one_of HT_.out (by kernel_rfl)) (by decide) (fun K hK => ?_)
             refine goes_ Try.func60 (by kernel_rfl) rfl #[.int .i64 (wrap64 ((((bt a1 a2_0) - 48) % 256) + a2_1))] (by rfl) rfl rfl (by simp only [mA, mB, mC]; all_goals rfl) ?_
             with_reducible refine (spec_l1Num.calls kj3 (wrap64 ((((bt a1 a2_0) - 48) % 256) + a2_1)) t151 _ A28.out).mono ?_
             rintro e w40 ⟨rfl, hb⟩
             refine ⟨_, rfl, ?_⟩
             have n0_ := aM (blk_below (g := gb146) (o := .cells #[.slice (some ad149) l0_0.length c0_0, .slice A0_1 l0_1.length c0_1] 31 (0, 0)) (by repeat first | exact BK146.out | refine kN ?_ _ | refine kD ?_ | refine kA ?_ _) hb)
             have n1_ := aM (blk_below (g := gb147) (o := .cells #[.int .i64 a2_0, .int .i64 a2_1] 62 (0, 0)) (by repeat first | exact BK147.out | refine kN ?_ _ | refine kD ?_ | refine kA ?_ _) hb)
             have n2_ := aM (below_step (by repeat first | exact HB.out | apply bA | apply bN | apply bD | refine bS ?_ GE146.out | refine bS ?_ GE147.out) hb)
             clear BK146 BK147 HB
             have BK146 := n0_
             have BK147 := n1_
             have HB := n2_
             clear n0_ n1_ n2_
             (try clear hb)
             (try clear hb2)
             (try clear hk)
             (try clear hi)
             refine hK.out _ _ ⟨(blk_cell BK147.out 0).trans rfl, (blk_cell BK147.out 1).trans rfl⟩ (fun hHeld => ?_)
             clear hK K
             refine norm_ (a' := ?_) ?_ ?_
             rotate_left
             ·show Act.put _ (some 52) _ = _
              simp only [Act.put, sA, sB, sC, i64_w, i32_w]
              rfl
             refine pure_ (i := 6) (N := some 53) (v := ?_) (a' := ?_) #[T,T,T,T,T,T,T,T,T,T,T,T,F,F] rfl rfl (any_of HT_.out (by kernel_rfl)) (fun _ _ _ h => h) (Or.inl ⟨by rfl, ?_⟩) ?_ ?_; rotate_left; (next => intro w'; go_simp; with_reducible rfl); rotate_left; next => simp only [Act.put, sA, sB, sC, i64_w, i32_w]; rfl
             refine pure_ (i := 12) (N := some 59) (v := ?_) (a' := ?_) #[T,T,T,T,T,T,T,T,T,T,T,T,T,F] rfl rfl (any_of HT_.out (by kernel_rfl)) (fun _ _ _ h => h) (Or.inl ⟨by rfl, ?_⟩) ?_ ?_; rotate_left; (next => intro w'; go_simp; with_reducible rfl); rotate_left; next => simp only [Act.put, sA, sB, sC, i64_w, i32_w]; rfl
             refine pure_ (i := 13) (N := some 9) (v := ?_) (a' := ?_) #[T,T,T,T,T,T,T,T,T,T,T,T,T,T] rfl rfl (any_of HT_.out (by kernel_rfl)) (fun _ _ _ h => h) (Or.inl ⟨by rfl, ?_⟩) ?_ ?_; rotate_left; (next => intro w'; go_simp; with_reducible rfl); rotate_left; next => simp only [Act.put, sA, sB, sC, i64_w, i32_w]; rfl
             refine done_ (done_of HT_.out (by kernel_rfl)) ?_
             have hcz41_0 : w40.cell? ⟨gb146, 0, none⟩ = some (.slice (some ad149) l0_0.length c0_0) := (blk_cell BK146.out 0).trans rfl
             have hcz41_1 : w40.cell? ⟨gb146, 1, none⟩ = some (.slice A0_1 l0_1.length c0_1) := (blk_cell BK146.out 1).trans rfl
             have hfz41_0 := blk_frozen BK146.out 0
             have hfz41_1 := blk_frozen BK146.out 1
             try go_wp2_with (first | ((with_reducible refine gate_callee (f := 44) rfl ?_); refine goesL_ (some 63) rfl rfl Try.func44 (by kernel_rfl) rfl #[.agg #[.slice (some ad149) l0_0.length c0_0, .slice A0_1 l0_1.length c0_1], .string (((a1.extract 0 (a2_0 : Int).toNat) ++ t151) ++ (a1.extract ((ji30) : Int).toNat a1.size))] rfl (by (try simp only [List.map_toArray, List.map_cons, List.map_nil]); first | done | (simp only [hji30]; rfl) | rfl | (simp only [List.length_drop, List.length_take]; rfl)) ?_; (with_reducible refine (spec_boFree.calls kj3 _ _ l0_0 _ _ l0_1 (((a1.extract 0 (a2_0 : Int).toNat) ++ t151) ++ (a1.extract ((ji30) : Int).toNat a1.size)) t152 _ ?side1 ?side2 ?side3 ?side4 A34.out).mono ?_); (case side1 => repeat first | exact Kd.C_below HR0_0.out HB.out | refine cA ?_ _ | refine cN ?_ _ | refine cD ?_); (case side2 => exact HC0_0.out); (case side3 => repeat first | exact Kd.C_below HR0_1.out HB.out | refine cA ?_ _ | refine cN ?_ _ | refine cD ?_); (case side4 => exact HC0_1.out); rintro e w42 ⟨rfl, hb⟩; refine ⟨_, rfl, ?_⟩; replace BK146 := aM (blk_below (g := gb146) (o := .cells #[.slice (some ad149) l0_0.length c0_0, .slice A0_1 l0_1.length c0_1] 31 (0, 0)) (by repeat first | exact BK146.out | refine kN ?_ _ | refine kD ?_ | refine kA ?_ _) hb); replace BK147 := aM (blk_below (g := gb147) (o := .cells #[.int .i64 a2_0, .int .i64 a2_1] 62 (0, 0)) (by repeat first | exact BK147.out | refine kN ?_ _ | refine kD ?_ | refine kA ?_ _) hb); replace HB := aM (below_step (by repeat first | exact HB.out | apply bA | apply bN | apply bD | refine bS ?_ GE146.out | refine bS ?_ GE147.out) hb); (try clear hb)))
             go_ret2
             exact ⟨by first | rfl | (simp [errW_none, errW_some] <;> rfl) | (simp only [← hji30]; first | rfl | (simp [errW_none, errW_some] <;> rfl)) | (simp [*, errW_none, errW_some] <;> rfl), by repeat first | exact HB.out | apply bA | apply bN | apply bD | refine bS ?_ GE146.out | refine bS ?_ GE147.out⟩
            ·rw [if_neg c33] at H
             exact absurd H (by simp)
           ·rw [if_neg c32] at H
            exact absurd H (by simp)
          ·rw [if_neg c31] at H
           exact absurd H (by simp)
         ·rw [if_neg c29] at H
          exact absurd H (by simp)
        ·rw [if_neg c27] at H
         exact absurd H (by simp)
       ·replace c25 := Bool.eq_false_iff.mpr c25
        subst c25
        have H1 : (some ((⟨#[]⟩ : ByteArray), false)) = some (r1, r2) := by rw [if_neg (show ¬ (false = true) by decide)] at H; exact H
        clear H; have H := H1; clear H1
        simp only [Option.some.injEq, Prod.mk.injEq] at H
        obtain ⟨rfl, rfl⟩ := H
        try go_wp2
        have n0_ := aM (blk_drew BK146.out)
        have n1_ := aM (blk_drew BK147.out)
        have n2_ := aM (below_drew1 HB.out)
        clear BK146 BK147 HB
        have BK146 := n0_
        have BK147 := n1_
        have HB := n2_
        clear n0_ n1_ n2_
        have p22 : 0 ≤ (a2_0 : Int) := oT (by assumption)
        have q22 : a2_0 < (a1.size : Int) := oT (by assumption)
        have hx22 := bt_at a1 a2_0
        replace p22 := eq_true p22
        replace q22 := eq_true q22
        refine start_ (n := 10) (S := fun w' => w'.cell? ⟨gb147, 0, none⟩ = some (.int .i64 a2_0) ∧ w'.cell? ⟨gb147, 1, none⟩ = some (.int .i64 a2_1)) (ds := []) #[F,F,F,F,F,F,F,F,F,F] (by kernel_rfl) rfl rfl ⟨(blk_cell BK147.out 0).trans rfl, (blk_cell BK147.out 1).trans rfl⟩ (fun hHeld => ?_); refine with_tabW spec_boPut.tab3 spec_boPut.bits3 (fun HT_ HW_ => ?_)
        generalize wc.drew = w43 at BK146 BK147 HB hHeld ⊢
        refine pure_ (i := 0) (N := some 28) (v := ?_) (a' := ?_) #[T,F,F,F,F,F,F,F,F,F] rfl rfl (any_of HT_.out (by kernel_rfl)) (fun _ _ _ h => h) (Or.inl ⟨by rfl, ?_⟩) ?_ ?_; rotate_left; (next => intro w'; go_simp; with_reducible rfl); rotate_left; next => simp only [Act.put, sA, sB, sC, i64_w, i32_w]; rfl
        refine pure_ (i := 1) (N := some 29) (v := ?_) (a' := ?_) #[T,T,F,F,F,F,F,F,F,F] rfl rfl (any_of HT_.out (by kernel_rfl)) (fun _ _ _ h => h) (Or.inl ⟨by rfl, ?_⟩) ?_ ?_; rotate_left; (next => intro w'; go_simp; with_reducible rfl); rotate_left; next => simp only [Act.put, sA, sB, sC, i64_w, i32_w]; rfl
        refine pure_ (i := 6) (N := some 34) (v := ?_) (a' := ?_) #[T,T,F,F,F,F,T,F,F,F] rfl rfl (any_of HT_.out (by kernel_rfl)) (fun _ _ _ h => h) (Or.inl ⟨by rfl, ?_⟩) ?_ ?_; rotate_left; (next => intro w'; go_simp; with_reducible rfl); rotate_left; next => simp only [Act.put, sA, sB, sC, i64_w, i32_w]; rfl
        refine take_ (i := 2) (N := some 30) (v := ?_) (a' := ?_) #[T,T,T,F,F,F,T,F,F,F] rfl rfl (take_ofW HT_.out HW_.out (by kernel_rfl)) (fun _ _ _ h => h) (Or.inl ⟨by rfl, ?_⟩) hHeld ?_ ?_
        rotate_left
        ·rintro w' ⟨s0, s1⟩
         go_simp
         with_reducible rfl
        rotate_left
        ·simp only [Act.put, sA, sB, sC, i64_w, i32_w]
         rfl
        refine take_ (i := 3) (N := some 31) (v := ?_) (a' := ?_) #[T,T,T,T,F,F,T,F,F,F] rfl rfl (take_ofW HT_.out HW_.out (by kernel_rfl)) (fun _ _ _ h => h) (Or.inl ⟨by rfl, ?_⟩) hHeld ?_ ?_
        rotate_left
        ·rintro w' ⟨s0, s1⟩
         go_simp
         with_reducible rfl
        rotate_left
        ·simp only [Act.put, sA, sB, sC, i64_w, i32_w]
         rfl
        refine pure_ (i := 4) (N := some 32) (v := ?_) (a' := ?_) #[T,T,T,T,T,F,T,F,F,F] rfl rfl (any_of HT_.out (by kernel_rfl)) (fun _ _ _ h => h) (Or.inl ⟨by rfl, ?_⟩) ?_ ?_; rotate_left; (next => intro w'; go_simp; with_reducible rfl); rotate_left; next => simp only [Act.put, sA, sB, sC, i64_w, i32_w]; rfl
        refine pure_ (i := 5) (N := some 33) (v := ?_) (a' := ?_) #[T,T,T,T,T,T,T,F,F,F] rfl rfl (any_of HT_.out (by kernel_rfl)) (fun _ _ _ h => h) (Or.inl ⟨by rfl, ?_⟩) ?_ ?_; rotate_left; (next => intro w'; go_simp; with_reducible rfl); rotate_left; next => simp only [Act.put, sA, sB, sC, i64_w, i32_w]; rfl
        refine take_ (i := 7) (N := some 35) (v := ?_) (a' := ?_) #[T,T,T,T,T,T,T,T,F,F] rfl rfl (take_ofW HT_.out HW_.out (by kernel_rfl)) (fun _ _ _ h => h) (Or.inl ⟨by rfl, ?_⟩) hHeld ?_ ?_
        rotate_left
        ·rintro w' ⟨s0, s1⟩
         go_simp
         with_reducible rfl
        rotate_left
        ·simp only [Act.put, sA, sB, sC, i64_w, i32_w]
         rfl
        refine pure_ (i := 8) (N := some 36) (v := ?_) (a' := ?_) #[T,T,T,T,T,T,T,T,T,F] rfl rfl (any_of HT_.out (by kernel_rfl)) (fun _ _ _ h => h) (Or.inl ⟨by rfl, ?_⟩) ?_ ?_; rotate_left; (next => intro w'; go_simp; with_reducible rfl); rotate_left; next => simp only [Act.put, sA, sB, sC, i64_w, i32_w]; rfl
        refine pure_ (i := 9) (N := some 8) (v := ?_) (a' := ?_) #[T,T,T,T,T,T,T,T,T,T] rfl rfl (any_of HT_.out (by kernel_rfl)) (fun _ _ _ h => h) (Or.inl ⟨by rfl, ?_⟩) ?_ ?_; rotate_left; (next => intro w'; go_simp; with_reducible rfl); rotate_left; next => simp only [Act.put, sA, sB, sC, i64_w, i32_w]; rfl
        refine done_ (done_of HT_.out (by kernel_rfl)) ?_
        have hnb44 := NB146_147.out
        have hnc44 := NB147_146.out
        have hcz45_0 : w43.cell? ⟨gb146, 0, none⟩ = some (.slice A0_0 l0_0.length c0_0) := (blk_cell BK146.out 0).trans rfl
        have hcz45_1 : w43.cell? ⟨gb146, 1, none⟩ = some (.slice A0_1 l0_1.length c0_1) := (blk_cell BK146.out 1).trans rfl
        have hfz45_0 := blk_frozen BK146.out 0
        have hfz45_1 := blk_frozen BK146.out 1
        have hcz46_0 : w43.cell? ⟨gb147, 0, none⟩ = some (.int .i64 a2_0) := (blk_cell BK147.out 0).trans rfl
        have hcz46_1 : w43.cell? ⟨gb147, 1, none⟩ = some (.int .i64 a2_1) := (blk_cell BK147.out 1).trans rfl
        have hfz46_0 := blk_frozen BK147.out 0
        have hfz46_1 := blk_frozen BK147.out 1
        have p149 : 0 ≤ (a2_0 : Int) := oT (by assumption)
        have q149 : a2_0 < (l0_0.length : Int) := oT (by assumption)
        obtain ⟨ad149, e149, hx149_0⟩ := Kd.at_int HR0_0.out a2_0 p149 q149
        cases e149
        replace hx149_0 := (HB.out.cell (World.block_lt_of_cell? w _ hx149_0)).trans hx149_0
        replace p149 := eq_true p149
        replace q149 := eq_true q149
        try go_wp2_with (first | ((with_reducible refine gate_callee (f := 40) rfl ?_); refine goesL_ (some 45) rfl rfl Try.func40 (by kernel_rfl) rfl #[.int .i64 (wrap64 ((((bt a1 a2_0) - 48) % 256) + a2_1)), .int .i64 0, .int .i64 (wrap64 ((rd l0_0 a2_0) - 1))] rfl (by simp only [mA, mB, mC]; all_goals rfl) ?_; (with_reducible refine (spec_l1In.calls (wrap64 ((((bt a1 a2_0) - 48) % 256) + a2_1)) 0 (wrap64 ((rd l0_0 a2_0) - 1)) false _ A24.out).mono ?_); rintro e w' ⟨rfl, ⟨nd, rfl⟩⟩; refine ⟨_, rfl, ?_⟩))
        go_ret2
        exact ⟨rfl, by repeat first | exact HB.out | apply bA | apply bN | apply bD | refine bS ?_ GE146.out | refine bS ?_ GE147.out⟩
      ·rw [if_neg c23] at H
       exact absurd H (by simp)
     ·rw [if_neg c21] at H
      exact absurd H (by simp)
    ·rw [if_neg c20] at H
     exact absurd H (by simp)

/-! ### spec_boSlides: function 32 -/
mutual
def spec_boSlides.l0 : Nat → ByteArray → List (S62) → Int → Int → List Int → List (S77) → Option ((List (S62)))
 | 0, _, _, _, _, _, _ => none
 | k + 1, x1, x5, x12, x13, x154000, x154001 => if x13 < x12 then (spec_boSlides.l1 k x1 x5 x13 1 x12 x13 x154000 x154001) else (some x5)
def spec_boSlides.l1 : Nat → ByteArray → List (S62) → Int → Int → Int → Int → List Int → List (S77) → Option ((List (S62)))
 | 0, _, _, _, _, _, _, _, _ => none
 | k + 1, x1, x5, x6, x7, x12, x13, x154000, x154001 => if x7 > (-2) then ((spec_boPut.f k x154000 x154001 x1 x6 x7).bind fun bt154 => (if bt154.2 = true then (if x5.length < 8796093022208 then (spec_boSlides.l1 k x1 (x5 ++ [(⟨x6, x7⟩ : S62)]) x6 (wrap64 (x7 - 2)) x12 x13 x154000 x154001) else (none)) else (spec_boSlides.l1 k x1 x5 x6 (wrap64 (x7 - 2)) x12 x13 x154000 x154001))) else (spec_boSlides.l0 k x1 x5 x12 (wrap64 (x13 + 1)) x154000 x154001)
end
def spec_boSlides.f (k : Nat) (l0_0 : List Int) (l0_1 : List (S77)) (a1 : ByteArray) : Option ((List (S62))) := spec_boSlides.l0 k a1 ([] : List (S62)) (l0_0.length : Int) 0 l0_0 l0_1
theorem spec_boSlides.mono_l : ∀ k, (∀ y0 y1 y2 y3 y4 y5, LeO (spec_boSlides.l0 k y0 y1 y2 y3 y4 y5) (spec_boSlides.l0 (k + 1) y0 y1 y2 y3 y4 y5)) ∧ (∀ y0 y1 y2 y3 y4 y5 y6 y7, LeO (spec_boSlides.l1 k y0 y1 y2 y3 y4 y5 y6 y7) (spec_boSlides.l1 (k + 1) y0 y1 y2 y3 y4 y5 y6 y7))
 | 0 => ⟨fun _ _ _ _ _ _ r h => by simp [spec_boSlides.l0] at h, fun _ _ _ _ _ _ _ _ r h => by simp [spec_boSlides.l1] at h⟩
 | k + 1 => by
  obtain ⟨ih0, ih1⟩ := spec_boSlides.mono_l k
  refine ⟨?_, ?_⟩
  ·intro y0 y1 y2 y3 y4 y5
   unfold spec_boSlides.l0
   repeat' first
   | (with_reducible exact ih0 _ _ _ _ _ _)
   | (with_reducible exact ih1 _ _ _ _ _ _ _ _)
   | (with_reducible exact spec_boPut.mono _ _ _ _ _ _)
   | (with_reducible exact LeO.refl _)
   | (with_reducible exact LeO.none _)
   | (with_reducible refine LeO.ite ?_ ?_)
   | (with_reducible refine LeO.bind ?_ (fun _ => ?_))
   | exact ih0 _ _ _ _ _ _
   | exact ih1 _ _ _ _ _ _ _ _
   | exact spec_boPut.mono _ _ _ _ _ _
   | exact LeO.none _
   | refine LeO.ite ?_ ?_
   | refine LeO.bind ?_ (fun _ => ?_)
  ·intro y0 y1 y2 y3 y4 y5 y6 y7
   unfold spec_boSlides.l1
   repeat' first
   | (with_reducible exact ih0 _ _ _ _ _ _)
   | (with_reducible exact ih1 _ _ _ _ _ _ _ _)
   | (with_reducible exact spec_boPut.mono _ _ _ _ _ _)
   | (with_reducible exact LeO.refl _)
   | (with_reducible exact LeO.none _)
   | (with_reducible refine LeO.ite ?_ ?_)
   | (with_reducible refine LeO.bind ?_ (fun _ => ?_))
   | exact ih0 _ _ _ _ _ _
   | exact ih1 _ _ _ _ _ _ _ _
   | exact spec_boPut.mono _ _ _ _ _ _
   | exact LeO.none _
   | refine LeO.ite ?_ ?_
   | refine LeO.bind ?_ (fun _ => ?_)
theorem spec_boSlides.mono : ∀ a0 a1 a2 k, LeO (spec_boSlides.f k a0 a1 a2) (spec_boSlides.f (k + 1) a0 a1 a2) := by
 intro a0 a1 a2 k
 obtain ⟨ih0, ih1⟩ := spec_boSlides.mono_l k
 unfold spec_boSlides.f
 repeat' first
   | (with_reducible exact ih0 _ _ _ _ _ _)
   | (with_reducible exact ih1 _ _ _ _ _ _ _ _)
   | (with_reducible exact spec_boPut.mono _ _ _ _ _ _)
   | (with_reducible exact LeO.refl _)
   | (with_reducible exact LeO.none _)
   | (with_reducible refine LeO.ite ?_ ?_)
   | (with_reducible refine LeO.bind ?_ (fun _ => ?_))
   | exact ih0 _ _ _ _ _ _
   | exact ih1 _ _ _ _ _ _ _ _
   | exact spec_boPut.mono _ _ _ _ _ _
   | exact LeO.none _
   | refine LeO.ite ?_ ?_
   | refine LeO.bind ?_ (fun _ => ?_)
set_option maxHeartbeats 8000000 in
set_option maxRecDepth 100000 in
theorem spec_boSlides.calls (k : Nat) (A0_0 : Option Addr) (c0_0 : Nat) (l0_0 : List Int) (A0_1 : Option Addr) (c0_1 : Nat) (l0_1 : List (S77)) (a1 : ByteArray) (r : List (S62)) (w : World) (hr0_0 : Kd.C (Kd.int .i64) w A0_0 l0_0.length l0_0) (hc0_0 : l0_0.length ≤ c0_0) (hr0_1 : Kd.C k77 w A0_1 l0_1.length l0_1) (hc0_1 : l0_1.length ≤ c0_1) (h : spec_boSlides.f k l0_0 l0_1 a1 = some r) :
  Calls Try.prog 32 #[.agg #[.slice A0_0 l0_0.length c0_0, .slice A0_1 l0_1.length c0_1], .string a1] w fun e w' => ∃ v0_ : Value, e = .returned (v0_) ∧ Kd.R k62 62 w' w.heap.size (fun _ => True) v0_ r ∧ Below w.heap.size w w' := by
 have hu31 := Try.underlying31
 have hu62 := Try.underlying62
 have HR0_0 := aM hr0_0
 have HC0_0 := aM hc0_0
 clear hr0_0 hc0_0
 have HR0_1 := aM hr0_1
 have HC0_1 := aM hc0_1
 clear hr0_1 hc0_1
 have HB := aM (Below.refl w.heap.size w)
 have H : (spec_boSlides.l0 k a1 ([] : List (S62)) (l0_0.length : Int) 0 l0_0 l0_1) = some r := h
 clear h
 have H' := aM H
 clear H
 go_enter Try.func32, Try.ntmps32
 go_wp2_with (first | ((with_reducible refine gate_dst (N := 2) rfl ?_); refine box_event ?hg (N := 2) ?hd (cs := #[.slice A0_0 l0_0.length c0_0, .slice A0_1 l0_1.length c0_1]) (t := 31) ?hr ?_; (case hd => rfl); (case hg => rfl); (case hr => go_simp); intro gb153 hg w3 hbox hb; have BK153 := aM (hbox); have GW153 := aM ((by rw [hg]; exact (below_size (by repeat first | exact HB.out | apply bA | apply bN | apply bD)) : w.heap.size ≤ gb153)); replace HB := aM (below_step (by repeat first | exact HB.out | apply bA | apply bN | apply bD) hb); have GE153 := GW153; clear hb hbox hg; have hcz4_0 : w3.cell? ⟨gb153, 0, none⟩ = some (.slice A0_0 l0_0.length c0_0) := (blk_cell BK153.out 0).trans rfl; have hcz4_1 : w3.cell? ⟨gb153, 1, none⟩ = some (.slice A0_1 l0_1.length c0_1) := (blk_cell BK153.out 1).trans rfl; have hfz4_0 := blk_frozen BK153.out 0; have hfz4_1 := blk_frozen BK153.out 1))
 go_loopg [5, 13] k (fun kq v5 v13 w' => ∃ (x5_1 : List (S62)) (x13_1 : Int), v13 = .int .i64 x13_1 ∧ Aside0 (spec_boSlides.l0 kq a1 x5_1 (l0_0.length : Int) x13_1 l0_0 l0_1 = some r) ∧ Aside0 (kq ≤ k) ∧ Aside0 (Kd.R k62 62 w' w.heap.size (fun _ => True) v5 x5_1) ∧ Aside0 (w'.heap[gb153]? = some (.cells #[(.slice A0_0 l0_0.length c0_0), (.slice A0_1 l0_1.length c0_1)] 31 (0, 0))) ∧ Aside0 (Below w.heap.size w w'))
 case atStart => exact ⟨(([] : List (S62))), (0), rfl, H', ⟨Nat.le_refl _⟩, ⟨by first | exact Kd.R_nil _ _ _ _ _ | exact Kd.N_nil _ _ _ _ _ | exact Kd.V_nil _ _ _ _ _ | exact Kd.Q_nil _ _ _ _ _ | exact Kd.S_nil _ _ _ _ _⟩, ⟨by repeat first | exact BK153.out | refine kN ?_ _ | refine kD ?_ | refine kA ?_ _⟩, ⟨by repeat first | exact HB.out | apply bA | apply bN | apply bD | refine bS ?_ GE153.out⟩⟩
 case round =>
  clear H'
  try clear p2
  try clear c3
  try clear hcz4_0
  try clear hcz4_1
  try clear hfz4_0
  try clear hfz4_1
  obtain ⟨x5_1, x13_1, rfl, HA, HK1, HO_5, BK153, HB⟩ := hrel
  cases gk with
  | zero => exact absurd HA.out (by simp [spec_boSlides.l0])
  | succ k1 =>
   have H := HA.out
   clear HA
   simp only [spec_boSlides.l0] at H
   by_cases c5 : x13_1 < (l0_0.length : Int)
   ·rw [if_pos c5] at H
    have c5b0 : decide (x13_1 < (l0_0.length : Int)) = true := decide_eq_true c5
    clear c5
    have H' := aM H
    clear H
    go_wp2
    go_loopg [5, 7] k1 (fun kq v5 v7 w' => ∃ (x5_2 : List (S62)) (x7_2 : Int), v7 = .int .i64 x7_2 ∧ Aside0 (spec_boSlides.l1 kq a1 x5_2 x13_1 x7_2 (l0_0.length : Int) x13_1 l0_0 l0_1 = some r) ∧ Aside0 (kq ≤ k1) ∧ Aside0 (Kd.R k62 62 w' w.heap.size (fun _ => True) v5 x5_2) ∧ Aside0 (w'.heap[gb153]? = some (.cells #[(.slice A0_0 l0_0.length c0_0), (.slice A0_1 l0_1.length c0_1)] 31 (0, 0))) ∧ Aside0 (Below w.heap.size w w'))
    case atStart => exact ⟨(x5_1), (1), rfl, H', ⟨Nat.le_refl _⟩, ⟨by repeat first | exact HO_5.out | apply rA | apply rN | apply rD⟩, ⟨by repeat first | exact BK153.out | refine kN ?_ _ | refine kD ?_ | refine kA ?_ _⟩, ⟨by repeat first | exact HB.out | apply bA | apply bN | apply bD | refine bS ?_ GE153.out⟩⟩
    case round =>
     clear H'
     try clear p2
     try clear c3
     try clear c5
     try clear c5b0
     try clear hcz4_0
     try clear hcz4_1
     try clear hfz4_0
     try clear hfz4_1
     try clear p2
     obtain ⟨x5_2, x7_2, rfl, HA, HK2, HO_5, BK153, HB⟩ := hrel
     cases gk with
     | zero => exact absurd HA.out (by simp [spec_boSlides.l1])
     | succ k2 =>
      have H := HA.out
      clear HA
      simp only [spec_boSlides.l1] at H
      by_cases c6 : x7_2 > (-2)
      ·rw [if_pos c6] at H
       have c6b0 : decide ((-2) < x7_2) = true := decide_eq_true c6
       clear c6
       replace H := Option.bind_eq_some_iff.mp H
       obtain ⟨⟨t154, t155⟩, A70, H⟩ := H
       replace H : (if t155 = true then (if x5_2.length < 8796093022208 then (spec_boSlides.l1 k2 a1 (x5_2 ++ [(⟨x13_1, x7_2⟩ : S62)]) x13_1 (wrap64 (x7_2 - 2)) (l0_0.length : Int) x13_1 l0_0 l0_1) else (none)) else (spec_boSlides.l1 k2 a1 x5_2 x13_1 (wrap64 (x7_2 - 2)) (l0_0.length : Int) x13_1 l0_0 l0_1)) = some r := H
       have A7 := aM A70
       clear A70
       by_cases c8 : t155 = true
       ·subst c8
        have H1 : (if x5_2.length < 8796093022208 then (spec_boSlides.l1 k2 a1 (x5_2 ++ [(⟨x13_1, x7_2⟩ : S62)]) x13_1 (wrap64 (x7_2 - 2)) (l0_0.length : Int) x13_1 l0_0 l0_1) else (none)) = some r := by rw [if_pos rfl] at H; exact H
        clear H; have H := H1; clear H1
        by_cases c9 : x5_2.length < 8796093022208
        ·rw [if_pos c9] at H
         have LMc9 := aM c9
         clear c9
         obtain ⟨y156, hy156⟩ : ∃ y_ : List (S62), y_ = (x5_2 ++ [(⟨x13_1, x7_2⟩ : S62)]) := ⟨_, rfl⟩
         replace H : (spec_boSlides.l1 k2 a1 y156 x13_1 (wrap64 (x7_2 - 2)) (l0_0.length : Int) x13_1 l0_0 l0_1) = some r := by first | (rw [hy156]; with_reducible exact H) | (have H2_ := (Option.bind_some _ _).symm.trans H; rw [hy156]; with_reducible exact H2_) | (have H2_ := (Option.bind_some _ _).symm.trans H; with_reducible exact H2_) | with_reducible exact H | (rw [hy156]; exact H) | exact H
         have Ny156 := aM hy156
         clear hy156
         have H' := aM H
         clear H
         have hcz10_0 : wr.cell? ⟨gb153, 0, none⟩ = some (.slice A0_0 l0_0.length c0_0) := (blk_cell BK153.out 0).trans rfl
         have hcz10_1 : wr.cell? ⟨gb153, 1, none⟩ = some (.slice A0_1 l0_1.length c0_1) := (blk_cell BK153.out 1).trans rfl
         have hfz10_0 := blk_frozen BK153.out 0
         have hfz10_1 := blk_frozen BK153.out 1
         go_wp2_with (first | ((with_reducible refine gate_callee (f := 33) rfl ?_); refine goesL_ (some 26) rfl rfl Try.func33 (by kernel_rfl) rfl #[.agg #[.slice A0_0 l0_0.length c0_0, .slice A0_1 l0_1.length c0_1], .string a1, .agg #[.int .i64 x13_1, .int .i64 x7_2]] rfl (by simp only [mA, mB, mC]; all_goals rfl) ?_; (with_reducible refine (spec_boPut.calls k2 _ _ l0_0 _ _ l0_1 a1 x13_1 x7_2 t154 true _ ?side1 ?side2 ?side3 ?side4 A7.out).mono ?_); (case side1 => repeat first | exact Kd.C_below HR0_0.out HB.out | refine cA ?_ _ | refine cN ?_ _ | refine cD ?_); (case side2 => exact HC0_0.out); (case side3 => repeat first | exact Kd.C_below HR0_1.out HB.out | refine cA ?_ _ | refine cN ?_ _ | refine cD ?_); (case side4 => exact HC0_1.out); rintro e w11 ⟨rfl, hb⟩; refine ⟨_, rfl, ?_⟩; replace HO_5 := aM (Kd.R_below (by repeat first | exact HO_5.out | apply rA | apply rN | apply rD) hb); replace BK153 := aM (blk_below (g := gb153) (o := .cells #[.slice A0_0 l0_0.length c0_0, .slice A0_1 l0_1.length c0_1] 31 (0, 0)) (by repeat first | exact BK153.out | refine kN ?_ _ | refine kD ?_ | refine kA ?_ _) hb); replace HB := aM (below_step (by repeat first | exact HB.out | apply bA | apply bN | apply bD | refine bS ?_ GE153.out) hb); (try clear hb)) | ((with_reducible refine gate_builtin (b := .append) (xs := #[.tmp 30, .tmp 34]) rfl ?_); at_builtin; refine Kd.R_append k62 (w0 := w) w.heap.size rfl (.tmp 30) (.tmp 34) 35 62 (.agg #[(.int .i64 0), (.int .i64 0)]) 16 rfl Try.underlying35 info62 rfl (by decide) (by omega) u5 x5_2 (⟨x13_1, x7_2⟩ : S62) [.int .i64 x13_1, .int .i64 x7_2] (fun _ => True) (fun _ => False) rfl rfl ?aP (fun _ hk => hk.elim) ?aF ?aO ?aB ?aS ?aL ?_; (case aP => exact k62_mkM _ _ _ (⟨x13_1, x7_2⟩ : S62)); (case aB => exact (by repeat first | exact HB.out | apply bA | apply bN | apply bD | refine bS ?_ GE153.out)); (case aF => exact (fun _ _ => trivial)); (case aO => exact (by repeat first | exact HO_5.out | apply rA | apply rN | apply rD)); (case aS => exact (below_size (by repeat first | exact HB.out | apply bA | apply bN | apply bD | refine bS ?_ GE153.out))); (case aL => have := LMc9.out; omega); intro v157 w12 ho hb hg hat; rw [← Ny156.out] at ho; replace BK153 := aM (blk_grown (g := gb153) (o := .cells #[.slice A0_0 l0_0.length c0_0, .slice A0_1 l0_1.length c0_1] 31 (0, 0)) (by repeat first | exact BK153.out | refine kN ?_ _ | refine kD ?_ | refine kA ?_ _) hg (Kd.R_ne HO_5.out BK153.out (by decide))); replace HB := aM (hb); have HO158 := aM (ho); clear ho hb hg hat))
         go_roundg k2
         case measure => have := HK1.out; have := HK2.out; omega
         case rel => exact ⟨(y156), (wrap64 (x7_2 - 2)), rfl, H', ⟨by have := HK1.out; have := HK2.out; omega⟩, ⟨by repeat first | exact HO158.out | apply rA | apply rN | apply rD⟩, ⟨by repeat first | exact BK153.out | refine kN ?_ _ | refine kD ?_ | refine kA ?_ _⟩, ⟨by repeat first | exact HB.out | apply bA | apply bN | apply bD | refine bS ?_ GE153.out⟩⟩
        ·rw [if_neg c9] at H
         exact absurd H (by simp)
       ·replace c8 := Bool.eq_false_iff.mpr c8
        subst c8
        have H1 : (spec_boSlides.l1 k2 a1 x5_2 x13_1 (wrap64 (x7_2 - 2)) (l0_0.length : Int) x13_1 l0_0 l0_1) = some r := by rw [if_neg (show ¬ (false = true) by decide)] at H; exact H
        clear H; have H := H1; clear H1
        have H' := aM H
        clear H
        have hcz13_0 : wr.cell? ⟨gb153, 0, none⟩ = some (.slice A0_0 l0_0.length c0_0) := (blk_cell BK153.out 0).trans rfl
        have hcz13_1 : wr.cell? ⟨gb153, 1, none⟩ = some (.slice A0_1 l0_1.length c0_1) := (blk_cell BK153.out 1).trans rfl
        have hfz13_0 := blk_frozen BK153.out 0
        have hfz13_1 := blk_frozen BK153.out 1
        go_wp2_with (first | ((with_reducible refine gate_callee (f := 33) rfl ?_); refine goesL_ (some 26) rfl rfl Try.func33 (by kernel_rfl) rfl #[.agg #[.slice A0_0 l0_0.length c0_0, .slice A0_1 l0_1.length c0_1], .string a1, .agg #[.int .i64 x13_1, .int .i64 x7_2]] rfl (by simp only [mA, mB, mC]; all_goals rfl) ?_; (with_reducible refine (spec_boPut.calls k2 _ _ l0_0 _ _ l0_1 a1 x13_1 x7_2 t154 false _ ?side1 ?side2 ?side3 ?side4 A7.out).mono ?_); (case side1 => repeat first | exact Kd.C_below HR0_0.out HB.out | refine cA ?_ _ | refine cN ?_ _ | refine cD ?_); (case side2 => exact HC0_0.out); (case side3 => repeat first | exact Kd.C_below HR0_1.out HB.out | refine cA ?_ _ | refine cN ?_ _ | refine cD ?_); (case side4 => exact HC0_1.out); rintro e w14 ⟨rfl, hb⟩; refine ⟨_, rfl, ?_⟩; replace HO_5 := aM (Kd.R_below (by repeat first | exact HO_5.out | apply rA | apply rN | apply rD) hb); replace BK153 := aM (blk_below (g := gb153) (o := .cells #[.slice A0_0 l0_0.length c0_0, .slice A0_1 l0_1.length c0_1] 31 (0, 0)) (by repeat first | exact BK153.out | refine kN ?_ _ | refine kD ?_ | refine kA ?_ _) hb); replace HB := aM (below_step (by repeat first | exact HB.out | apply bA | apply bN | apply bD | refine bS ?_ GE153.out) hb); (try clear hb)))
        go_roundg k2
        case measure => have := HK1.out; have := HK2.out; omega
        case rel => exact ⟨(x5_2), (wrap64 (x7_2 - 2)), rfl, H', ⟨by have := HK1.out; have := HK2.out; omega⟩, ⟨by repeat first | exact HO_5.out | apply rA | apply rN | apply rD⟩, ⟨by repeat first | exact BK153.out | refine kN ?_ _ | refine kD ?_ | refine kA ?_ _⟩, ⟨by repeat first | exact HB.out | apply bA | apply bN | apply bD | refine bS ?_ GE153.out⟩⟩
      ·rw [if_neg c6] at H
       have c6b0 : decide ((-2) < x7_2) = false := decide_eq_false c6
       clear c6
       have H' := aM H
       clear H
       go_wp2
       go_roundg k2
       case measure => have := HK1.out; have := HK2.out; omega
       case rel => exact ⟨(x5_2), (wrap64 (x13_1 + 1)), rfl, H', ⟨by have := HK1.out; have := HK2.out; omega⟩, ⟨by repeat first | exact HO_5.out | apply rA | apply rN | apply rD⟩, ⟨by repeat first | exact BK153.out | refine kN ?_ _ | refine kD ?_ | refine kA ?_ _⟩, ⟨by repeat first | exact HB.out | apply bA | apply bN | apply bD | refine bS ?_ GE153.out⟩⟩
   ·rw [if_neg c5] at H
    have c5b0 : decide (x13_1 < (l0_0.length : Int)) = false := decide_eq_false c5
    clear c5
    obtain rfl := Option.some.inj H
    go_wp2
    go_ret
    exact ⟨_, rfl, by repeat first | exact HO_5.out | apply rA | apply rN | apply rD, by repeat first | exact HB.out | apply bA | apply bN | apply bD | refine bS ?_ GE153.out⟩

end Go.Proofs.Ytehhfcbhoaocdaa.PP
