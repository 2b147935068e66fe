-- written by a program of this session's (wip/tools), over the kit's print
import Derived.Test.YtehhfcbhoaocdaaPPx0
import Derived.Test.YtehhfcbhoaocdaaPPx1
import Derived.Test.YtehhfcbhoaocdaaPPx3
-- squeezed
-- squeezed twice
namespace Go.Proofs.Ytehhfcbhoaocdaa.PP
open Go.RowKit Go.Proofs.YtehhfcbhoaocdaaW.PrintWords Go.Proofs.YtehhfcbhoaocdaaW.PrintLast Go.Proofs.YtehhfcbhoaocdaaW.PrintMore
attribute [local go_sem] max2_int min2_int max_two min_two max_three min_three max_four min_four   -- for this text's walks alone
set_option linter.unusedVariables false
set_option linter.unusedSimpArgs false

/-! ### spec_boFree: function 44 -/
def spec_boFree.l0 : Nat → ByteArray → List (S77) → Int → Int → Option (Bool)
 | 0, _, _, _, _ => none
 | k + 1, x1, x8, x9, x10 => if x10 < x9 then (if 0 ≤ x10 then (if x10 < (x8.length : Int) then (if 0 ≤ ((rd_T77 x8 x10).f0) then (if ((rd_T77 x8 x10).f0) < (x1.size : Int) then (if (((bt x1 ((rd_T77 x8 x10).f0)) - 48) % 256) = ((rd_T77 x8 x10).f1) then (if 0 ≤ ((rd_T77 x8 x10).f2) then (if ((rd_T77 x8 x10).f2) < (x1.size : Int) then (if (((bt x1 ((rd_T77 x8 x10).f2)) - 48) % 256) = ((rd_T77 x8 x10).f3) then (some false) else (spec_boFree.l0 k x1 x8 x9 (wrap64 (x10 + 1)))) else (none)) else (none)) else (spec_boFree.l0 k x1 x8 x9 (wrap64 (x10 + 1)))) else (none)) else (none)) else (none)) else (none)) else (some true)
def spec_boFree.f (k : Nat) (l0_0 : List Int) (l0_1 : List (S77)) (a1 : ByteArray) : Option (Bool) := spec_boFree.l0 k a1 l0_1 (l0_1.length : Int) 0
theorem spec_boFree.mono_l : ∀ k, (∀ y0 y1 y2 y3, LeO (spec_boFree.l0 k y0 y1 y2 y3) (spec_boFree.l0 (k + 1) y0 y1 y2 y3))
 | 0 => fun _ _ _ _ r h => by simp [spec_boFree.l0] at h
 | k + 1 => by
  have ih0 := spec_boFree.mono_l k
  ·intro y0 y1 y2 y3
   unfold spec_boFree.l0
   repeat' first
   | (with_reducible exact ih0 _ _ _ _)
   | (with_reducible exact LeO.refl _)
   | (with_reducible exact LeO.none _)
   | (with_reducible refine LeO.ite ?_ ?_)
   | (with_reducible refine LeO.bind ?_ (fun _ => ?_))
   | exact ih0 _ _ _ _
   | exact LeO.none _
   | refine LeO.ite ?_ ?_
   | refine LeO.bind ?_ (fun _ => ?_)
theorem spec_boFree.mono : ∀ a0 a1 a2 k, LeO (spec_boFree.f k a0 a1 a2) (spec_boFree.f (k + 1) a0 a1 a2) := by
 intro a0 a1 a2 k
 have ih0 := spec_boFree.mono_l k
 unfold spec_boFree.f
 repeat' first
   | (with_reducible exact ih0 _ _ _ _)
   | (with_reducible exact LeO.refl _)
   | (with_reducible exact LeO.none _)
   | (with_reducible refine LeO.ite ?_ ?_)
   | (with_reducible refine LeO.bind ?_ (fun _ => ?_))
   | exact ih0 _ _ _ _
   | exact LeO.none _
   | refine LeO.ite ?_ ?_
   | refine LeO.bind ?_ (fun _ => ?_)
set_option maxHeartbeats 8000000 in
set_option maxRecDepth 100000 in
theorem spec_boFree.calls (k : Nat) (A0_0 : Option Addr) (c0_0 : Nat) (l0_0 : List Int) (A0_1 : Option Addr) (c0_1 : Nat) (l0_1 : List (S77)) (a1 : ByteArray) (r : Bool) (w : World) (hr0_0 : Kd.C (Kd.int .i64) w A0_0 l0_0.length l0_0) (hc0_0 : l0_0.length ≤ c0_0) (hr0_1 : Kd.C k77 w A0_1 l0_1.length l0_1) (hc0_1 : l0_1.length ≤ c0_1) (h : spec_boFree.f k l0_0 l0_1 a1 = some r) :
  Calls Try.prog 44 #[.agg #[.slice A0_0 l0_0.length c0_0, .slice A0_1 l0_1.length c0_1], .string a1] w fun e w' => e = .returned (.bool r) ∧ Below w.heap.size w w' := by
 have hu31 := Try.underlying31
 have hu77 := Try.underlying77
 have HR0_0 := aM hr0_0
 have HC0_0 := aM hc0_0
 clear hr0_0 hc0_0
 have HR0_1 := aM hr0_1
 have HC0_1 := aM hc0_1
 clear hr0_1 hc0_1
 have HB := aM (Below.refl w.heap.size w)
 have H : (spec_boFree.l0 k a1 l0_1 (l0_1.length : Int) 0) = some r := h
 clear h
 have H' := aM H
 clear H
 go_enter Try.func44, Try.ntmps44
 go_wp2_with (first | ((with_reducible refine gate_dst (N := 2) rfl ?_); refine box_event ?hg (N := 2) ?hd (cs := #[.slice A0_0 l0_0.length c0_0, .slice A0_1 l0_1.length c0_1]) (t := 31) ?hr ?_; (case hd => rfl); (case hg => rfl); (case hr => go_simp); intro gb134 hg w3 hbox hb; have BK134 := aM (hbox); have GW134 := aM ((by rw [hg]; exact (below_size HB.out) : w.heap.size ≤ gb134)); replace HB := aM (below_step HB.out hb); have GE134 := GW134; clear hb hbox hg; have hcz4_0 : w3.cell? ⟨gb134, 0, none⟩ = some (.slice A0_0 l0_0.length c0_0) := (blk_cell BK134.out 0).trans rfl; have hcz4_1 : w3.cell? ⟨gb134, 1, none⟩ = some (.slice A0_1 l0_1.length c0_1) := (blk_cell BK134.out 1).trans rfl; have hfz4_0 := blk_frozen BK134.out 0; have hfz4_1 := blk_frozen BK134.out 1))
 repeat (go_quiet (first | ((with_reducible refine gate_dst (N := 2) rfl ?_); refine box_event ?hg (N := 2) ?hd (cs := #[.slice A0_0 l0_0.length c0_0, .slice A0_1 l0_1.length c0_1]) (t := 31) ?hr ?_; (case hd => rfl); (case hg => rfl); (case hr => go_simp); intro gb134 hg w3 hbox hb; have BK134 := aM (hbox); have GW134 := aM ((by rw [hg]; exact (below_size HB.out) : w.heap.size ≤ gb134)); replace HB := aM (below_step HB.out hb); have GE134 := GW134; clear hb hbox hg; have hcz4_0 : w3.cell? ⟨gb134, 0, none⟩ = some (.slice A0_0 l0_0.length c0_0) := (blk_cell BK134.out 0).trans rfl; have hcz4_1 : w3.cell? ⟨gb134, 1, none⟩ = some (.slice A0_1 l0_1.length c0_1) := (blk_cell BK134.out 1).trans rfl; have hfz4_0 := blk_frozen BK134.out 0; have hfz4_1 := blk_frozen BK134.out 1)); try go_wp2_with (first | ((with_reducible refine gate_dst (N := 2) rfl ?_); refine box_event ?hg (N := 2) ?hd (cs := #[.slice A0_0 l0_0.length c0_0, .slice A0_1 l0_1.length c0_1]) (t := 31) ?hr ?_; (case hd => rfl); (case hg => rfl); (case hr => go_simp); intro gb134 hg w3 hbox hb; have BK134 := aM (hbox); have GW134 := aM ((by rw [hg]; exact (below_size HB.out) : w.heap.size ≤ gb134)); replace HB := aM (below_step HB.out hb); have GE134 := GW134; clear hb hbox hg; have hcz4_0 : w3.cell? ⟨gb134, 0, none⟩ = some (.slice A0_0 l0_0.length c0_0) := (blk_cell BK134.out 0).trans rfl; have hcz4_1 : w3.cell? ⟨gb134, 1, none⟩ = some (.slice A0_1 l0_1.length c0_1) := (blk_cell BK134.out 1).trans rfl; have hfz4_0 := blk_frozen BK134.out 0; have hfz4_1 := blk_frozen BK134.out 1)))
 go_loopg [10] k (fun kq v10 w' => ∃ (x10_1 : Int), v10 = .int .i64 x10_1 ∧ Aside0 (spec_boFree.l0 kq a1 l0_1 (l0_1.length : Int) x10_1 = some r) ∧ Aside0 (kq ≤ k) ∧ Aside0 (w'.heap[gb134]? = some (.cells #[(.slice A0_0 l0_0.length c0_0), (.slice A0_1 l0_1.length c0_1)] 31 (0, 0))) ∧ Aside0 (Below w.heap.size w w'))
 case atStart => exact ⟨(0), rfl, H', ⟨Nat.le_refl _⟩, BK134, HB⟩
 case round =>
  clear H'
  try clear p2
  try clear c4
  try clear hcz4_0
  try clear hcz4_1
  try clear hfz4_0
  try clear hfz4_1
  obtain ⟨x10_1, rfl, HA, HK1, BK134, HB⟩ := hrel
  cases gk with
  | zero => exact absurd HA.out (by simp [spec_boFree.l0])
  | succ k1 =>
   have H := HA.out
   clear HA
   simp only [spec_boFree.l0] at H
   by_cases c5 : x10_1 < (l0_1.length : Int)
   ·rw [if_pos c5] at H
    have c5b0 : decide (x10_1 < (l0_1.length : Int)) = true := decide_eq_true c5
    clear c5
    by_cases c6 : 0 ≤ x10_1
    ·rw [if_pos c6] at H
     have c6b0 : decide (0 ≤ x10_1) = true := decide_eq_true c6
     clear c6
     by_cases c7 : x10_1 < (l0_1.length : Int)
     ·rw [if_pos c7] at H
      have c7b0 : decide (x10_1 < (l0_1.length : Int)) = true := decide_eq_true c7
      clear c7
      by_cases c8 : 0 ≤ ((rd_T77 l0_1 x10_1).f0)
      ·rw [if_pos c8] at H
       have c8b0 : decide (0 ≤ ((rd_T77 l0_1 x10_1).f0)) = true := decide_eq_true c8
       clear c8
       by_cases c9 : ((rd_T77 l0_1 x10_1).f0) < (a1.size : Int)
       ·rw [if_pos c9] at H
        have c9b0 : decide (((rd_T77 l0_1 x10_1).f0) < (a1.size : Int)) = true := decide_eq_true c9
        clear c9
        by_cases c11 : (((bt a1 ((rd_T77 l0_1 x10_1).f0)) - 48) % 256) = ((rd_T77 l0_1 x10_1).f1)
        ·rw [if_pos c11] at H
         have c11b0 : ((((bt a1 ((rd_T77 l0_1 x10_1).f0)) - 48) % 256) == ((rd_T77 l0_1 x10_1).f1)) = true := beq_iff_eq.mpr c11
         have c11b1 : ((((bt a1 ((rd_T77 l0_1 x10_1).f0)) - 48) % 256) != ((rd_T77 l0_1 x10_1).f1)) = false := bne_eq_false_iff_eq.mpr c11
         clear c11
         by_cases c12 : 0 ≤ ((rd_T77 l0_1 x10_1).f2)
         ·rw [if_pos c12] at H
          have c12b0 : decide (0 ≤ ((rd_T77 l0_1 x10_1).f2)) = true := decide_eq_true c12
          clear c12
          by_cases c13 : ((rd_T77 l0_1 x10_1).f2) < (a1.size : Int)
          ·rw [if_pos c13] at H
           have c13b0 : decide (((rd_T77 l0_1 x10_1).f2) < (a1.size : Int)) = true := decide_eq_true c13
           clear c13
           by_cases c15 : (((bt a1 ((rd_T77 l0_1 x10_1).f2)) - 48) % 256) = ((rd_T77 l0_1 x10_1).f3)
           ·rw [if_pos c15] at H
            have c15b0 : ((((bt a1 ((rd_T77 l0_1 x10_1).f2)) - 48) % 256) == ((rd_T77 l0_1 x10_1).f3)) = true := beq_iff_eq.mpr c15
            have c15b1 : ((((bt a1 ((rd_T77 l0_1 x10_1).f2)) - 48) % 256) != ((rd_T77 l0_1 x10_1).f3)) = false := bne_eq_false_iff_eq.mpr c15
            clear c15
            obtain rfl := Option.some.inj H
            have p135 : 0 ≤ (x10_1 : Int) := oT (by assumption)
            have q135 : x10_1 < (l0_1.length : Int) := oT (by assumption)
            obtain ⟨ad135, e135, hx135_0, hx135_1, hx135_2, hx135_3⟩ := at_T77 HR0_1.out x10_1 p135 q135
            cases e135
            replace hx135_0 := (HB.out.cell (World.block_lt_of_cell? w _ hx135_0)).trans hx135_0
            replace hx135_1 := (HB.out.cell (World.block_lt_of_cell? w _ hx135_1)).trans hx135_1
            replace hx135_2 := (HB.out.cell (World.block_lt_of_cell? w _ hx135_2)).trans hx135_2
            replace hx135_3 := (HB.out.cell (World.block_lt_of_cell? w _ hx135_3)).trans hx135_3
            replace p135 := eq_true p135
            replace q135 := eq_true q135
            go_wp2_with (first | ((with_reducible refine gate_dst (N := 6) rfl ?_); refine box_event ?hg (N := 6) ?hd (cs := #[.int .i64 0, .int .i64 0, .int .i64 0, .int .i64 0]) (t := 77) ?hr ?_; (case hd => rfl); (case hg => rfl); (case hr => go_simp); intro gb136 hg w16 hbox hb; have BK136 := aM (hbox); have GW136 := aM ((by rw [hg]; exact (below_size HB.out) : w.heap.size ≤ gb136)); replace HB := aM (below_step HB.out hb); have NB134_136 := aM ((by rw [hg]; exact Nat.ne_of_lt (blk_lt (g := gb134) (o := .cells #[.slice A0_0 l0_0.length c0_0, .slice (some ad135) l0_1.length c0_1] 31 (0, 0)) BK134.out) : gb134 ≠ gb136)); have NB136_134 := aM ((by rw [hg]; exact Nat.ne_of_gt (blk_lt (g := gb134) (o := .cells #[.slice A0_0 l0_0.length c0_0, .slice (some ad135) l0_1.length c0_1] 31 (0, 0)) BK134.out) : gb136 ≠ gb134)); replace BK134 := aM (blk_below (g := gb134) (o := .cells #[.slice A0_0 l0_0.length c0_0, .slice (some ad135) l0_1.length c0_1] 31 (0, 0)) BK134.out hb); have GE136 := GW136; clear hb hbox hg; have hnb17 := NB136_134.out; have hnc17 := NB134_136.out; have hcz18_0 : w16.cell? ⟨gb136, 0, none⟩ = some (.int .i64 0) := (blk_cell BK136.out 0).trans rfl; have hcz18_1 : w16.cell? ⟨gb136, 1, none⟩ = some (.int .i64 0) := (blk_cell BK136.out 1).trans rfl; have hcz18_2 : w16.cell? ⟨gb136, 2, none⟩ = some (.int .i64 0) := (blk_cell BK136.out 2).trans rfl; have hcz18_3 : w16.cell? ⟨gb136, 3, none⟩ = some (.int .i64 0) := (blk_cell BK136.out 3).trans rfl; have hfz18_0 := blk_frozen BK136.out 0; have hfz18_1 := blk_frozen BK136.out 1; have hfz18_2 := blk_frozen BK136.out 2; have hfz18_3 := blk_frozen BK136.out 3; have p10 : 0 ≤ (((rd_T77 l0_1 x10_1).f0) : Int) := oT (by assumption); have q10 : ((rd_T77 l0_1 x10_1).f0) < (a1.size : Int) := oT (by assumption); have hx10 := bt_at a1 ((rd_T77 l0_1 x10_1).f0); replace p10 := eq_true p10; replace q10 := eq_true q10; have p14 : 0 ≤ (((rd_T77 l0_1 x10_1).f2) : Int) := oT (by assumption); have q14 : ((rd_T77 l0_1 x10_1).f2) < (a1.size : Int) := oT (by assumption); have hx14 := bt_at a1 ((rd_T77 l0_1 x10_1).f2); replace p14 := eq_true p14; replace q14 := eq_true q14))
            repeat (go_quiet (first | ((with_reducible refine gate_dst (N := 6) rfl ?_); refine box_event ?hg (N := 6) ?hd (cs := #[.int .i64 0, .int .i64 0, .int .i64 0, .int .i64 0]) (t := 77) ?hr ?_; (case hd => rfl); (case hg => rfl); (case hr => go_simp); intro gb136 hg w16 hbox hb; have BK136 := aM (hbox); have GW136 := aM ((by rw [hg]; exact (below_size HB.out) : w.heap.size ≤ gb136)); replace HB := aM (below_step HB.out hb); have NB134_136 := aM ((by rw [hg]; exact Nat.ne_of_lt (blk_lt (g := gb134) (o := .cells #[.slice A0_0 l0_0.length c0_0, .slice (some ad135) l0_1.length c0_1] 31 (0, 0)) BK134.out) : gb134 ≠ gb136)); have NB136_134 := aM ((by rw [hg]; exact Nat.ne_of_gt (blk_lt (g := gb134) (o := .cells #[.slice A0_0 l0_0.length c0_0, .slice (some ad135) l0_1.length c0_1] 31 (0, 0)) BK134.out) : gb136 ≠ gb134)); replace BK134 := aM (blk_below (g := gb134) (o := .cells #[.slice A0_0 l0_0.length c0_0, .slice (some ad135) l0_1.length c0_1] 31 (0, 0)) BK134.out hb); have GE136 := GW136; clear hb hbox hg; have hnb17 := NB136_134.out; have hnc17 := NB134_136.out; have hcz18_0 : w16.cell? ⟨gb136, 0, none⟩ = some (.int .i64 0) := (blk_cell BK136.out 0).trans rfl; have hcz18_1 : w16.cell? ⟨gb136, 1, none⟩ = some (.int .i64 0) := (blk_cell BK136.out 1).trans rfl; have hcz18_2 : w16.cell? ⟨gb136, 2, none⟩ = some (.int .i64 0) := (blk_cell BK136.out 2).trans rfl; have hcz18_3 : w16.cell? ⟨gb136, 3, none⟩ = some (.int .i64 0) := (blk_cell BK136.out 3).trans rfl; have hfz18_0 := blk_frozen BK136.out 0; have hfz18_1 := blk_frozen BK136.out 1; have hfz18_2 := blk_frozen BK136.out 2; have hfz18_3 := blk_frozen BK136.out 3; have p10 : 0 ≤ (((rd_T77 l0_1 x10_1).f0) : Int) := oT (by assumption); have q10 : ((rd_T77 l0_1 x10_1).f0) < (a1.size : Int) := oT (by assumption); have hx10 := bt_at a1 ((rd_T77 l0_1 x10_1).f0); replace p10 := eq_true p10; replace q10 := eq_true q10; have p14 : 0 ≤ (((rd_T77 l0_1 x10_1).f2) : Int) := oT (by assumption); have q14 : ((rd_T77 l0_1 x10_1).f2) < (a1.size : Int) := oT (by assumption); have hx14 := bt_at a1 ((rd_T77 l0_1 x10_1).f2); replace p14 := eq_true p14; replace q14 := eq_true q14)); try go_wp2_with (first | ((with_reducible refine gate_dst (N := 6) rfl ?_); refine box_event ?hg (N := 6) ?hd (cs := #[.int .i64 0, .int .i64 0, .int .i64 0, .int .i64 0]) (t := 77) ?hr ?_; (case hd => rfl); (case hg => rfl); (case hr => go_simp); intro gb136 hg w16 hbox hb; have BK136 := aM (hbox); have GW136 := aM ((by rw [hg]; exact (below_size HB.out) : w.heap.size ≤ gb136)); replace HB := aM (below_step HB.out hb); have NB134_136 := aM ((by rw [hg]; exact Nat.ne_of_lt (blk_lt (g := gb134) (o := .cells #[.slice A0_0 l0_0.length c0_0, .slice (some ad135) l0_1.length c0_1] 31 (0, 0)) BK134.out) : gb134 ≠ gb136)); have NB136_134 := aM ((by rw [hg]; exact Nat.ne_of_gt (blk_lt (g := gb134) (o := .cells #[.slice A0_0 l0_0.length c0_0, .slice (some ad135) l0_1.length c0_1] 31 (0, 0)) BK134.out) : gb136 ≠ gb134)); replace BK134 := aM (blk_below (g := gb134) (o := .cells #[.slice A0_0 l0_0.length c0_0, .slice (some ad135) l0_1.length c0_1] 31 (0, 0)) BK134.out hb); have GE136 := GW136; clear hb hbox hg; have hnb17 := NB136_134.out; have hnc17 := NB134_136.out; have hcz18_0 : w16.cell? ⟨gb136, 0, none⟩ = some (.int .i64 0) := (blk_cell BK136.out 0).trans rfl; have hcz18_1 : w16.cell? ⟨gb136, 1, none⟩ = some (.int .i64 0) := (blk_cell BK136.out 1).trans rfl; have hcz18_2 : w16.cell? ⟨gb136, 2, none⟩ = some (.int .i64 0) := (blk_cell BK136.out 2).trans rfl; have hcz18_3 : w16.cell? ⟨gb136, 3, none⟩ = some (.int .i64 0) := (blk_cell BK136.out 3).trans rfl; have hfz18_0 := blk_frozen BK136.out 0; have hfz18_1 := blk_frozen BK136.out 1; have hfz18_2 := blk_frozen BK136.out 2; have hfz18_3 := blk_frozen BK136.out 3; have p10 : 0 ≤ (((rd_T77 l0_1 x10_1).f0) : Int) := oT (by assumption); have q10 : ((rd_T77 l0_1 x10_1).f0) < (a1.size : Int) := oT (by assumption); have hx10 := bt_at a1 ((rd_T77 l0_1 x10_1).f0); replace p10 := eq_true p10; replace q10 := eq_true q10; have p14 : 0 ≤ (((rd_T77 l0_1 x10_1).f2) : Int) := oT (by assumption); have q14 : ((rd_T77 l0_1 x10_1).f2) < (a1.size : Int) := oT (by assumption); have hx14 := bt_at a1 ((rd_T77 l0_1 x10_1).f2); replace p14 := eq_true p14; replace q14 := eq_true q14)))
            go_ret
            exact ⟨rfl, by repeat first | exact HB.out | apply bA | apply bN | apply bD | refine bS ?_ GE134.out | refine bS ?_ GE136.out⟩
           ·rw [if_neg c15] at H
            have c15b0 : ((((bt a1 ((rd_T77 l0_1 x10_1).f2)) - 48) % 256) == ((rd_T77 l0_1 x10_1).f3)) = false := beq_eq_false_iff_ne.mpr c15
            have c15b1 : ((((bt a1 ((rd_T77 l0_1 x10_1).f2)) - 48) % 256) != ((rd_T77 l0_1 x10_1).f3)) = true := bne_iff_ne.mpr c15
            have H' := aM H
            clear H
            have p135 : 0 ≤ (x10_1 : Int) := oT (by assumption)
            have q135 : x10_1 < (l0_1.length : Int) := oT (by assumption)
            obtain ⟨ad135, e135, hx135_0, hx135_1, hx135_2, hx135_3⟩ := at_T77 HR0_1.out x10_1 p135 q135
            cases e135
            replace hx135_0 := (HB.out.cell (World.block_lt_of_cell? w _ hx135_0)).trans hx135_0
            replace hx135_1 := (HB.out.cell (World.block_lt_of_cell? w _ hx135_1)).trans hx135_1
            replace hx135_2 := (HB.out.cell (World.block_lt_of_cell? w _ hx135_2)).trans hx135_2
            replace hx135_3 := (HB.out.cell (World.block_lt_of_cell? w _ hx135_3)).trans hx135_3
            replace p135 := eq_true p135
            replace q135 := eq_true q135
            go_wp2_with (first | ((with_reducible refine gate_dst (N := 6) rfl ?_); refine box_event ?hg (N := 6) ?hd (cs := #[.int .i64 0, .int .i64 0, .int .i64 0, .int .i64 0]) (t := 77) ?hr ?_; (case hd => rfl); (case hg => rfl); (case hr => go_simp); intro gb136 hg w19 hbox hb; have BK136 := aM (hbox); have GW136 := aM ((by rw [hg]; exact (below_size HB.out) : w.heap.size ≤ gb136)); replace HB := aM (below_step HB.out hb); have NB134_136 := aM ((by rw [hg]; exact Nat.ne_of_lt (blk_lt (g := gb134) (o := .cells #[.slice A0_0 l0_0.length c0_0, .slice (some ad135) l0_1.length c0_1] 31 (0, 0)) BK134.out) : gb134 ≠ gb136)); have NB136_134 := aM ((by rw [hg]; exact Nat.ne_of_gt (blk_lt (g := gb134) (o := .cells #[.slice A0_0 l0_0.length c0_0, .slice (some ad135) l0_1.length c0_1] 31 (0, 0)) BK134.out) : gb136 ≠ gb134)); replace BK134 := aM (blk_below (g := gb134) (o := .cells #[.slice A0_0 l0_0.length c0_0, .slice (some ad135) l0_1.length c0_1] 31 (0, 0)) BK134.out hb); have GE136 := GW136; clear hb hbox hg; have hnb20 := NB136_134.out; have hnc20 := NB134_136.out; have hcz21_0 : w19.cell? ⟨gb136, 0, none⟩ = some (.int .i64 0) := (blk_cell BK136.out 0).trans rfl; have hcz21_1 : w19.cell? ⟨gb136, 1, none⟩ = some (.int .i64 0) := (blk_cell BK136.out 1).trans rfl; have hcz21_2 : w19.cell? ⟨gb136, 2, none⟩ = some (.int .i64 0) := (blk_cell BK136.out 2).trans rfl; have hcz21_3 : w19.cell? ⟨gb136, 3, none⟩ = some (.int .i64 0) := (blk_cell BK136.out 3).trans rfl; have hfz21_0 := blk_frozen BK136.out 0; have hfz21_1 := blk_frozen BK136.out 1; have hfz21_2 := blk_frozen BK136.out 2; have hfz21_3 := blk_frozen BK136.out 3; have p10 : 0 ≤ (((rd_T77 l0_1 x10_1).f0) : Int) := oT (by assumption); have q10 : ((rd_T77 l0_1 x10_1).f0) < (a1.size : Int) := oT (by assumption); have hx10 := bt_at a1 ((rd_T77 l0_1 x10_1).f0); replace p10 := eq_true p10; replace q10 := eq_true q10; have p14 : 0 ≤ (((rd_T77 l0_1 x10_1).f2) : Int) := oT (by assumption); have q14 : ((rd_T77 l0_1 x10_1).f2) < (a1.size : Int) := oT (by assumption); have hx14 := bt_at a1 ((rd_T77 l0_1 x10_1).f2); replace p14 := eq_true p14; replace q14 := eq_true q14))
            repeat (go_quiet (first | ((with_reducible refine gate_dst (N := 6) rfl ?_); refine box_event ?hg (N := 6) ?hd (cs := #[.int .i64 0, .int .i64 0, .int .i64 0, .int .i64 0]) (t := 77) ?hr ?_; (case hd => rfl); (case hg => rfl); (case hr => go_simp); intro gb136 hg w19 hbox hb; have BK136 := aM (hbox); have GW136 := aM ((by rw [hg]; exact (below_size HB.out) : w.heap.size ≤ gb136)); replace HB := aM (below_step HB.out hb); have NB134_136 := aM ((by rw [hg]; exact Nat.ne_of_lt (blk_lt (g := gb134) (o := .cells #[.slice A0_0 l0_0.length c0_0, .slice (some ad135) l0_1.length c0_1] 31 (0, 0)) BK134.out) : gb134 ≠ gb136)); have NB136_134 := aM ((by rw [hg]; exact Nat.ne_of_gt (blk_lt (g := gb134) (o := .cells #[.slice A0_0 l0_0.length c0_0, .slice (some ad135) l0_1.length c0_1] 31 (0, 0)) BK134.out) : gb136 ≠ gb134)); replace BK134 := aM (blk_below (g := gb134) (o := .cells #[.slice A0_0 l0_0.length c0_0, .slice (some ad135) l0_1.length c0_1] 31 (0, 0)) BK134.out hb); have GE136 := GW136; clear hb hbox hg; have hnb20 := NB136_134.out; have hnc20 := NB134_136.out; have hcz21_0 : w19.cell? ⟨gb136, 0, none⟩ = some (.int .i64 0) := (blk_cell BK136.out 0).trans rfl; have hcz21_1 : w19.cell? ⟨gb136, 1, none⟩ = some (.int .i64 0) := (blk_cell BK136.out 1).trans rfl; have hcz21_2 : w19.cell? ⟨gb136, 2, none⟩ = some (.int .i64 0) := (blk_cell BK136.out 2).trans rfl; have hcz21_3 : w19.cell? ⟨gb136, 3, none⟩ = some (.int .i64 0) := (blk_cell BK136.out 3).trans rfl; have hfz21_0 := blk_frozen BK136.out 0; have hfz21_1 := blk_frozen BK136.out 1; have hfz21_2 := blk_frozen BK136.out 2; have hfz21_3 := blk_frozen BK136.out 3; have p10 : 0 ≤ (((rd_T77 l0_1 x10_1).f0) : Int) := oT (by assumption); have q10 : ((rd_T77 l0_1 x10_1).f0) < (a1.size : Int) := oT (by assumption); have hx10 := bt_at a1 ((rd_T77 l0_1 x10_1).f0); replace p10 := eq_true p10; replace q10 := eq_true q10; have p14 : 0 ≤ (((rd_T77 l0_1 x10_1).f2) : Int) := oT (by assumption); have q14 : ((rd_T77 l0_1 x10_1).f2) < (a1.size : Int) := oT (by assumption); have hx14 := bt_at a1 ((rd_T77 l0_1 x10_1).f2); replace p14 := eq_true p14; replace q14 := eq_true q14)); try go_wp2_with (first | ((with_reducible refine gate_dst (N := 6) rfl ?_); refine box_event ?hg (N := 6) ?hd (cs := #[.int .i64 0, .int .i64 0, .int .i64 0, .int .i64 0]) (t := 77) ?hr ?_; (case hd => rfl); (case hg => rfl); (case hr => go_simp); intro gb136 hg w19 hbox hb; have BK136 := aM (hbox); have GW136 := aM ((by rw [hg]; exact (below_size HB.out) : w.heap.size ≤ gb136)); replace HB := aM (below_step HB.out hb); have NB134_136 := aM ((by rw [hg]; exact Nat.ne_of_lt (blk_lt (g := gb134) (o := .cells #[.slice A0_0 l0_0.length c0_0, .slice (some ad135) l0_1.length c0_1] 31 (0, 0)) BK134.out) : gb134 ≠ gb136)); have NB136_134 := aM ((by rw [hg]; exact Nat.ne_of_gt (blk_lt (g := gb134) (o := .cells #[.slice A0_0 l0_0.length c0_0, .slice (some ad135) l0_1.length c0_1] 31 (0, 0)) BK134.out) : gb136 ≠ gb134)); replace BK134 := aM (blk_below (g := gb134) (o := .cells #[.slice A0_0 l0_0.length c0_0, .slice (some ad135) l0_1.length c0_1] 31 (0, 0)) BK134.out hb); have GE136 := GW136; clear hb hbox hg; have hnb20 := NB136_134.out; have hnc20 := NB134_136.out; have hcz21_0 : w19.cell? ⟨gb136, 0, none⟩ = some (.int .i64 0) := (blk_cell BK136.out 0).trans rfl; have hcz21_1 : w19.cell? ⟨gb136, 1, none⟩ = some (.int .i64 0) := (blk_cell BK136.out 1).trans rfl; have hcz21_2 : w19.cell? ⟨gb136, 2, none⟩ = some (.int .i64 0) := (blk_cell BK136.out 2).trans rfl; have hcz21_3 : w19.cell? ⟨gb136, 3, none⟩ = some (.int .i64 0) := (blk_cell BK136.out 3).trans rfl; have hfz21_0 := blk_frozen BK136.out 0; have hfz21_1 := blk_frozen BK136.out 1; have hfz21_2 := blk_frozen BK136.out 2; have hfz21_3 := blk_frozen BK136.out 3; have p10 : 0 ≤ (((rd_T77 l0_1 x10_1).f0) : Int) := oT (by assumption); have q10 : ((rd_T77 l0_1 x10_1).f0) < (a1.size : Int) := oT (by assumption); have hx10 := bt_at a1 ((rd_T77 l0_1 x10_1).f0); replace p10 := eq_true p10; replace q10 := eq_true q10; have p14 : 0 ≤ (((rd_T77 l0_1 x10_1).f2) : Int) := oT (by assumption); have q14 : ((rd_T77 l0_1 x10_1).f2) < (a1.size : Int) := oT (by assumption); have hx14 := bt_at a1 ((rd_T77 l0_1 x10_1).f2); replace p14 := eq_true p14; replace q14 := eq_true q14)))
            go_roundg k1
            case measure => have := HK1.out; omega
            case rel => exact ⟨(wrap64 (x10_1 + 1)), rfl, H', ⟨by have := HK1.out; omega⟩, ⟨by (with_reducible repeat (first | refine kN ?_ _ | refine kD ?_ | refine kA ?_ _)); refine blk_far ?_ NB134_136.out _; (with_reducible repeat (first | refine kN ?_ _ | refine kD ?_ | refine kA ?_ _)); refine blk_far ?_ NB134_136.out _; (with_reducible repeat (first | refine kN ?_ _ | refine kD ?_ | refine kA ?_ _)); refine blk_far ?_ NB134_136.out _; (with_reducible repeat (first | refine kN ?_ _ | refine kD ?_ | refine kA ?_ _)); refine blk_far ?_ NB134_136.out _; (with_reducible repeat (first | refine kN ?_ _ | refine kD ?_ | refine kA ?_ _)); exact BK134.out⟩, ⟨by repeat first | exact HB.out | apply bA | apply bN | apply bD | refine bS ?_ GE134.out | refine bS ?_ GE136.out⟩⟩
          ·rw [if_neg c13] at H
           exact absurd H (by simp)
         ·rw [if_neg c12] at H
          exact absurd H (by simp)
        ·rw [if_neg c11] at H
         have c11b0 : ((((bt a1 ((rd_T77 l0_1 x10_1).f0)) - 48) % 256) == ((rd_T77 l0_1 x10_1).f1)) = false := beq_eq_false_iff_ne.mpr c11
         have c11b1 : ((((bt a1 ((rd_T77 l0_1 x10_1).f0)) - 48) % 256) != ((rd_T77 l0_1 x10_1).f1)) = true := bne_iff_ne.mpr c11
         have H' := aM H
         clear H
         have p135 : 0 ≤ (x10_1 : Int) := oT (by assumption)
         have q135 : x10_1 < (l0_1.length : Int) := oT (by assumption)
         obtain ⟨ad135, e135, hx135_0, hx135_1, hx135_2, hx135_3⟩ := at_T77 HR0_1.out x10_1 p135 q135
         cases e135
         replace hx135_0 := (HB.out.cell (World.block_lt_of_cell? w _ hx135_0)).trans hx135_0
         replace hx135_1 := (HB.out.cell (World.block_lt_of_cell? w _ hx135_1)).trans hx135_1
         replace hx135_2 := (HB.out.cell (World.block_lt_of_cell? w _ hx135_2)).trans hx135_2
         replace hx135_3 := (HB.out.cell (World.block_lt_of_cell? w _ hx135_3)).trans hx135_3
         replace p135 := eq_true p135
         replace q135 := eq_true q135
         go_wp2_with (first | ((with_reducible refine gate_dst (N := 6) rfl ?_); refine box_event ?hg (N := 6) ?hd (cs := #[.int .i64 0, .int .i64 0, .int .i64 0, .int .i64 0]) (t := 77) ?hr ?_; (case hd => rfl); (case hg => rfl); (case hr => go_simp); intro gb136 hg w22 hbox hb; have BK136 := aM (hbox); have GW136 := aM ((by rw [hg]; exact (below_size HB.out) : w.heap.size ≤ gb136)); replace HB := aM (below_step HB.out hb); have NB134_136 := aM ((by rw [hg]; exact Nat.ne_of_lt (blk_lt (g := gb134) (o := .cells #[.slice A0_0 l0_0.length c0_0, .slice (some ad135) l0_1.length c0_1] 31 (0, 0)) BK134.out) : gb134 ≠ gb136)); have NB136_134 := aM ((by rw [hg]; exact Nat.ne_of_gt (blk_lt (g := gb134) (o := .cells #[.slice A0_0 l0_0.length c0_0, .slice (some ad135) l0_1.length c0_1] 31 (0, 0)) BK134.out) : gb136 ≠ gb134)); replace BK134 := aM (blk_below (g := gb134) (o := .cells #[.slice A0_0 l0_0.length c0_0, .slice (some ad135) l0_1.length c0_1] 31 (0, 0)) BK134.out hb); have GE136 := GW136; clear hb hbox hg; have hnb23 := NB136_134.out; have hnc23 := NB134_136.out; have hcz24_0 : w22.cell? ⟨gb136, 0, none⟩ = some (.int .i64 0) := (blk_cell BK136.out 0).trans rfl; have hcz24_1 : w22.cell? ⟨gb136, 1, none⟩ = some (.int .i64 0) := (blk_cell BK136.out 1).trans rfl; have hcz24_2 : w22.cell? ⟨gb136, 2, none⟩ = some (.int .i64 0) := (blk_cell BK136.out 2).trans rfl; have hcz24_3 : w22.cell? ⟨gb136, 3, none⟩ = some (.int .i64 0) := (blk_cell BK136.out 3).trans rfl; have hfz24_0 := blk_frozen BK136.out 0; have hfz24_1 := blk_frozen BK136.out 1; have hfz24_2 := blk_frozen BK136.out 2; have hfz24_3 := blk_frozen BK136.out 3; have p10 : 0 ≤ (((rd_T77 l0_1 x10_1).f0) : Int) := oT (by assumption); have q10 : ((rd_T77 l0_1 x10_1).f0) < (a1.size : Int) := oT (by assumption); have hx10 := bt_at a1 ((rd_T77 l0_1 x10_1).f0); replace p10 := eq_true p10; replace q10 := eq_true q10))
         repeat (go_quiet (first | ((with_reducible refine gate_dst (N := 6) rfl ?_); refine box_event ?hg (N := 6) ?hd (cs := #[.int .i64 0, .int .i64 0, .int .i64 0, .int .i64 0]) (t := 77) ?hr ?_; (case hd => rfl); (case hg => rfl); (case hr => go_simp); intro gb136 hg w22 hbox hb; have BK136 := aM (hbox); have GW136 := aM ((by rw [hg]; exact (below_size HB.out) : w.heap.size ≤ gb136)); replace HB := aM (below_step HB.out hb); have NB134_136 := aM ((by rw [hg]; exact Nat.ne_of_lt (blk_lt (g := gb134) (o := .cells #[.slice A0_0 l0_0.length c0_0, .slice (some ad135) l0_1.length c0_1] 31 (0, 0)) BK134.out) : gb134 ≠ gb136)); have NB136_134 := aM ((by rw [hg]; exact Nat.ne_of_gt (blk_lt (g := gb134) (o := .cells #[.slice A0_0 l0_0.length c0_0, .slice (some ad135) l0_1.length c0_1] 31 (0, 0)) BK134.out) : gb136 ≠ gb134)); replace BK134 := aM (blk_below (g := gb134) (o := .cells #[.slice A0_0 l0_0.length c0_0, .slice (some ad135) l0_1.length c0_1] 31 (0, 0)) BK134.out hb); have GE136 := GW136; clear hb hbox hg; have hnb23 := NB136_134.out; have hnc23 := NB134_136.out; have hcz24_0 : w22.cell? ⟨gb136, 0, none⟩ = some (.int .i64 0) := (blk_cell BK136.out 0).trans rfl; have hcz24_1 : w22.cell? ⟨gb136, 1, none⟩ = some (.int .i64 0) := (blk_cell BK136.out 1).trans rfl; have hcz24_2 : w22.cell? ⟨gb136, 2, none⟩ = some (.int .i64 0) := (blk_cell BK136.out 2).trans rfl; have hcz24_3 : w22.cell? ⟨gb136, 3, none⟩ = some (.int .i64 0) := (blk_cell BK136.out 3).trans rfl; have hfz24_0 := blk_frozen BK136.out 0; have hfz24_1 := blk_frozen BK136.out 1; have hfz24_2 := blk_frozen BK136.out 2; have hfz24_3 := blk_frozen BK136.out 3; have p10 : 0 ≤ (((rd_T77 l0_1 x10_1).f0) : Int) := oT (by assumption); have q10 : ((rd_T77 l0_1 x10_1).f0) < (a1.size : Int) := oT (by assumption); have hx10 := bt_at a1 ((rd_T77 l0_1 x10_1).f0); replace p10 := eq_true p10; replace q10 := eq_true q10)); try go_wp2_with (first | ((with_reducible refine gate_dst (N := 6) rfl ?_); refine box_event ?hg (N := 6) ?hd (cs := #[.int .i64 0, .int .i64 0, .int .i64 0, .int .i64 0]) (t := 77) ?hr ?_; (case hd => rfl); (case hg => rfl); (case hr => go_simp); intro gb136 hg w22 hbox hb; have BK136 := aM (hbox); have GW136 := aM ((by rw [hg]; exact (below_size HB.out) : w.heap.size ≤ gb136)); replace HB := aM (below_step HB.out hb); have NB134_136 := aM ((by rw [hg]; exact Nat.ne_of_lt (blk_lt (g := gb134) (o := .cells #[.slice A0_0 l0_0.length c0_0, .slice (some ad135) l0_1.length c0_1] 31 (0, 0)) BK134.out) : gb134 ≠ gb136)); have NB136_134 := aM ((by rw [hg]; exact Nat.ne_of_gt (blk_lt (g := gb134) (o := .cells #[.slice A0_0 l0_0.length c0_0, .slice (some ad135) l0_1.length c0_1] 31 (0, 0)) BK134.out) : gb136 ≠ gb134)); replace BK134 := aM (blk_below (g := gb134) (o := .cells #[.slice A0_0 l0_0.length c0_0, .slice (some ad135) l0_1.length c0_1] 31 (0, 0)) BK134.out hb); have GE136 := GW136; clear hb hbox hg; have hnb23 := NB136_134.out; have hnc23 := NB134_136.out; have hcz24_0 : w22.cell? ⟨gb136, 0, none⟩ = some (.int .i64 0) := (blk_cell BK136.out 0).trans rfl; have hcz24_1 : w22.cell? ⟨gb136, 1, none⟩ = some (.int .i64 0) := (blk_cell BK136.out 1).trans rfl; have hcz24_2 : w22.cell? ⟨gb136, 2, none⟩ = some (.int .i64 0) := (blk_cell BK136.out 2).trans rfl; have hcz24_3 : w22.cell? ⟨gb136, 3, none⟩ = some (.int .i64 0) := (blk_cell BK136.out 3).trans rfl; have hfz24_0 := blk_frozen BK136.out 0; have hfz24_1 := blk_frozen BK136.out 1; have hfz24_2 := blk_frozen BK136.out 2; have hfz24_3 := blk_frozen BK136.out 3; have p10 : 0 ≤ (((rd_T77 l0_1 x10_1).f0) : Int) := oT (by assumption); have q10 : ((rd_T77 l0_1 x10_1).f0) < (a1.size : Int) := oT (by assumption); have hx10 := bt_at a1 ((rd_T77 l0_1 x10_1).f0); replace p10 := eq_true p10; replace q10 := eq_true q10)))
         go_roundg k1
         case measure => have := HK1.out; omega
         case rel => exact ⟨(wrap64 (x10_1 + 1)), rfl, H', ⟨by have := HK1.out; omega⟩, ⟨by (with_reducible repeat (first | refine kN ?_ _ | refine kD ?_ | refine kA ?_ _)); refine blk_far ?_ NB134_136.out _; (with_reducible repeat (first | refine kN ?_ _ | refine kD ?_ | refine kA ?_ _)); refine blk_far ?_ NB134_136.out _; (with_reducible repeat (first | refine kN ?_ _ | refine kD ?_ | refine kA ?_ _)); refine blk_far ?_ NB134_136.out _; (with_reducible repeat (first | refine kN ?_ _ | refine kD ?_ | refine kA ?_ _)); refine blk_far ?_ NB134_136.out _; (with_reducible repeat (first | refine kN ?_ _ | refine kD ?_ | refine kA ?_ _)); exact BK134.out⟩, ⟨by repeat first | exact HB.out | apply bA | apply bN | apply bD | refine bS ?_ GE134.out | refine bS ?_ GE136.out⟩⟩
       ·rw [if_neg c9] at H
        exact absurd H (by simp)
      ·rw [if_neg c8] at H
       exact absurd H (by simp)
     ·rw [if_neg c7] at H
      exact absurd H (by simp)
    ·rw [if_neg c6] at H
     exact absurd H (by simp)
   ·rw [if_neg c5] at H
    have c5b0 : decide (x10_1 < (l0_1.length : Int)) = false := decide_eq_false c5
    clear c5
    obtain rfl := Option.some.inj H
    go_wp2
    repeat (go_quiet (fail); try go_wp2)
    go_ret
    exact ⟨rfl, HB.out⟩

/-! ### spec_boAll: function 20 -/
def spec_boAll.l0 : Nat → List ByteArray → Int → List Int → List (S77) → Option (List ByteArray)
 | 0, _, _, _, _ => none
 | k + 1, x3, x4, x138000, x138001 => (spec_boCount.f k x138000 x138001).bind fun t138 => (if x4 < t138 then ((spec_boState.f k x138000 x138001 x4).bind fun t139 => ((spec_boFree.f k x138000 x138001 t139).bind fun t140 => (if t140 = true then (if x3.length < 8796093022208 then (spec_boAll.l0 k (x3 ++ [t139]) (wrap64 (x4 + 1)) x138000 x138001) else (none)) else (spec_boAll.l0 k x3 (wrap64 (x4 + 1)) x138000 x138001)))) else (some x3))
def spec_boAll.f (k : Nat) (l0_0 : List Int) (l0_1 : List (S77)) : Option (List ByteArray) := spec_boAll.l0 k ([] : List ByteArray) 0 l0_0 l0_1
theorem spec_boAll.mono_l : ∀ k, (∀ y0 y1 y2 y3, LeO (spec_boAll.l0 k y0 y1 y2 y3) (spec_boAll.l0 (k + 1) y0 y1 y2 y3))
 | 0 => fun _ _ _ _ r h => by simp [spec_boAll.l0] at h
 | k + 1 => by
  have ih0 := spec_boAll.mono_l k
  ·intro y0 y1 y2 y3
   unfold spec_boAll.l0
   repeat' first
   | (with_reducible exact ih0 _ _ _ _)
   | (with_reducible exact spec_boCount.mono _ _ _)
   | (with_reducible exact spec_boFree.mono _ _ _ _)
   | (with_reducible exact spec_boState.mono _ _ _ _)
   | (with_reducible exact LeO.refl _)
   | (with_reducible exact LeO.none _)
   | (with_reducible refine LeO.ite ?_ ?_)
   | (with_reducible refine LeO.bind ?_ (fun _ => ?_))
   | exact ih0 _ _ _ _
   | exact spec_boCount.mono _ _ _
   | exact spec_boFree.mono _ _ _ _
   | exact spec_boState.mono _ _ _ _
   | exact LeO.none _
   | refine LeO.ite ?_ ?_
   | refine LeO.bind ?_ (fun _ => ?_)
theorem spec_boAll.mono : ∀ a0 a1 k, LeO (spec_boAll.f k a0 a1) (spec_boAll.f (k + 1) a0 a1) := by
 intro a0 a1 k
 have ih0 := spec_boAll.mono_l k
 unfold spec_boAll.f
 repeat' first
   | (with_reducible exact ih0 _ _ _ _)
   | (with_reducible exact spec_boCount.mono _ _ _)
   | (with_reducible exact spec_boFree.mono _ _ _ _)
   | (with_reducible exact spec_boState.mono _ _ _ _)
   | (with_reducible exact LeO.refl _)
   | (with_reducible exact LeO.none _)
   | (with_reducible refine LeO.ite ?_ ?_)
   | (with_reducible refine LeO.bind ?_ (fun _ => ?_))
   | exact ih0 _ _ _ _
   | exact spec_boCount.mono _ _ _
   | exact spec_boFree.mono _ _ _ _
   | exact spec_boState.mono _ _ _ _
   | exact LeO.none _
   | refine LeO.ite ?_ ?_
   | refine LeO.bind ?_ (fun _ => ?_)
set_option maxHeartbeats 8000000 in
set_option maxRecDepth 100000 in
theorem spec_boAll.calls (k : Nat) (A0_0 : Option Addr) (c0_0 : Nat) (l0_0 : List Int) (A0_1 : Option Addr) (c0_1 : Nat) (l0_1 : List (S77)) (r : List ByteArray) (w : World) (hr0_0 : Kd.C (Kd.int .i64) w A0_0 l0_0.length l0_0) (hc0_0 : l0_0.length ≤ c0_0) (hr0_1 : Kd.C k77 w A0_1 l0_1.length l0_1) (hc0_1 : l0_1.length ≤ c0_1) (h : spec_boAll.f k l0_0 l0_1 = some r) :
  Calls Try.prog 20 #[.agg #[.slice A0_0 l0_0.length c0_0, .slice A0_1 l0_1.length c0_1]] w fun e w' => ∃ v0_ : Value, e = .returned (v0_) ∧ Kd.R Kd.string 9 w' w.heap.size (fun _ => True) v0_ r ∧ Below w.heap.size w w' := by
 have hu31 := Try.underlying31
 have HR0_0 := aM hr0_0
 have HC0_0 := aM hc0_0
 clear hr0_0 hc0_0
 have HR0_1 := aM hr0_1
 have HC0_1 := aM hc0_1
 clear hr0_1 hc0_1
 have HB := aM (Below.refl w.heap.size w)
 have H : (spec_boAll.l0 k ([] : List ByteArray) 0 l0_0 l0_1) = some r := h
 clear h
 have H' := aM H
 clear H
 go_enter Try.func20, Try.ntmps20
 go_wp2_with (first | ((with_reducible refine gate_dst (N := 1) rfl ?_); refine box_event ?hg (N := 1) ?hd (cs := #[.slice A0_0 l0_0.length c0_0, .slice A0_1 l0_1.length c0_1]) (t := 31) ?hr ?_; (case hd => rfl); (case hg => rfl); (case hr => go_simp); intro gb137 hg w2 hbox hb; have BK137 := aM (hbox); have GW137 := aM ((by rw [hg]; exact (below_size HB.out) : w.heap.size ≤ gb137)); replace HB := aM (below_step HB.out hb); have GE137 := GW137; clear hb hbox hg))
 go_loopg [3, 4] k (fun kq v3 v4 w' => ∃ (x3_1 : List ByteArray) (x4_1 : Int), v4 = .int .i64 x4_1 ∧ Aside0 (spec_boAll.l0 kq x3_1 x4_1 l0_0 l0_1 = some r) ∧ Aside0 (kq ≤ k) ∧ Aside0 (Kd.R Kd.string 9 w' w.heap.size (fun _ => True) v3 x3_1) ∧ Aside0 (w'.heap[gb137]? = some (.cells #[(.slice A0_0 l0_0.length c0_0), (.slice A0_1 l0_1.length c0_1)] 31 (0, 0))) ∧ Aside0 (Below w.heap.size w w'))
 case atStart => exact ⟨(([] : List ByteArray)), (0), rfl, H', ⟨Nat.le_refl _⟩, ⟨by first | exact Kd.R_nil _ _ _ _ _ | exact Kd.N_nil _ _ _ _ _ | exact Kd.V_nil _ _ _ _ _ | exact Kd.Q_nil _ _ _ _ _ | exact Kd.S_nil _ _ _ _ _⟩, BK137, HB⟩
 case round =>
  clear H'
  try clear c2
  try clear p2
  obtain ⟨x3_1, x4_1, rfl, HA, HK1, HO_3, BK137, HB⟩ := hrel
  cases gk with
  | zero => exact absurd HA.out (by simp [spec_boAll.l0])
  | succ k1 =>
   have H := HA.out
   clear HA
   simp only [spec_boAll.l0] at H
   replace H := Option.bind_eq_some_iff.mp H
   obtain ⟨t138, A30, H⟩ := H
   replace H : (if x4_1 < t138 then ((spec_boState.f k1 l0_0 l0_1 x4_1).bind fun t139 => ((spec_boFree.f k1 l0_0 l0_1 t139).bind fun t140 => (if t140 = true then (if x3_1.length < 8796093022208 then (spec_boAll.l0 k1 (x3_1 ++ [t139]) (wrap64 (x4_1 + 1)) l0_0 l0_1) else (none)) else (spec_boAll.l0 k1 x3_1 (wrap64 (x4_1 + 1)) l0_0 l0_1)))) else (some x3_1)) = some r := H
   have A3 := aM A30
   clear A30
   by_cases c4 : x4_1 < t138
   ·rw [if_pos c4] at H
    have c4b0 : decide (x4_1 < t138) = true := decide_eq_true c4
    clear c4
    replace H := Option.bind_eq_some_iff.mp H
    obtain ⟨t139, A50, H⟩ := H
    replace H : ((spec_boFree.f k1 l0_0 l0_1 t139).bind fun t140 => (if t140 = true then (if x3_1.length < 8796093022208 then (spec_boAll.l0 k1 (x3_1 ++ [t139]) (wrap64 (x4_1 + 1)) l0_0 l0_1) else (none)) else (spec_boAll.l0 k1 x3_1 (wrap64 (x4_1 + 1)) l0_0 l0_1))) = some r := H
    have A5 := aM A50
    clear A50
    replace H := Option.bind_eq_some_iff.mp H
    obtain ⟨t140, A60, H⟩ := H
    replace H : (if t140 = true then (if x3_1.length < 8796093022208 then (spec_boAll.l0 k1 (x3_1 ++ [t139]) (wrap64 (x4_1 + 1)) l0_0 l0_1) else (none)) else (spec_boAll.l0 k1 x3_1 (wrap64 (x4_1 + 1)) l0_0 l0_1)) = some r := H
    have A6 := aM A60
    clear A60
    by_cases c7 : t140 = true
    ·subst c7
     have H1 : (if x3_1.length < 8796093022208 then (spec_boAll.l0 k1 (x3_1 ++ [t139]) (wrap64 (x4_1 + 1)) l0_0 l0_1) else (none)) = some r := by rw [if_pos rfl] at H; exact H
     clear H; have H := H1; clear H1
     by_cases c8 : x3_1.length < 8796093022208
     ·rw [if_pos c8] at H
      have LMc8 := aM c8
      clear c8
      obtain ⟨y141, hy141⟩ : ∃ y_ : List ByteArray, y_ = (x3_1 ++ [t139]) := ⟨_, rfl⟩
      replace H : (spec_boAll.l0 k1 y141 (wrap64 (x4_1 + 1)) l0_0 l0_1) = some r := by first | (rw [hy141]; with_reducible exact H) | (have H2_ := (Option.bind_some _ _).symm.trans H; rw [hy141]; with_reducible exact H2_) | (have H2_ := (Option.bind_some _ _).symm.trans H; with_reducible exact H2_) | with_reducible exact H | (rw [hy141]; exact H) | exact H
      have Ny141 := aM hy141
      clear hy141
      have H' := aM H
      clear H
      have hcz9_0 : wr.cell? ⟨gb137, 0, none⟩ = some (.slice A0_0 l0_0.length c0_0) := (blk_cell BK137.out 0).trans rfl
      have hcz9_1 : wr.cell? ⟨gb137, 1, none⟩ = some (.slice A0_1 l0_1.length c0_1) := (blk_cell BK137.out 1).trans rfl
      have hfz9_0 := blk_frozen BK137.out 0
      have hfz9_1 := blk_frozen BK137.out 1
      go_wp2_with (first | ((with_reducible refine gate_callee (f := 19) rfl ?_); refine goesL_ (some 8) rfl rfl Try.func19 (by kernel_rfl) rfl #[.agg #[.slice A0_0 l0_0.length c0_0, .slice A0_1 l0_1.length c0_1]] rfl (by simp only [mA, mB, mC]; all_goals rfl) ?_; (with_reducible refine (spec_boCount.calls k1 _ _ l0_0 _ _ l0_1 t138 _ ?side1 ?side2 ?side3 ?side4 A3.out).mono ?_); (case side1 => exact Kd.C_below HR0_0.out HB.out); (case side2 => exact HC0_0.out); (case side3 => exact Kd.C_below HR0_1.out HB.out); (case side4 => exact HC0_1.out); rintro e w10 ⟨rfl, hb⟩; refine ⟨_, rfl, ?_⟩; replace HO_3 := aM (Kd.R_below HO_3.out hb); replace BK137 := aM (blk_below (g := gb137) (o := .cells #[.slice A0_0 l0_0.length c0_0, .slice A0_1 l0_1.length c0_1] 31 (0, 0)) BK137.out hb); replace HB := aM (below_step HB.out hb); (try clear hb); have hcz11_0 : w10.cell? ⟨gb137, 0, none⟩ = some (.slice A0_0 l0_0.length c0_0) := (blk_cell BK137.out 0).trans rfl; have hcz11_1 : w10.cell? ⟨gb137, 1, none⟩ = some (.slice A0_1 l0_1.length c0_1) := (blk_cell BK137.out 1).trans rfl; have hfz11_0 := blk_frozen BK137.out 0; have hfz11_1 := blk_frozen BK137.out 1) | ((with_reducible refine gate_callee (f := 43) rfl ?_); refine goesL_ (some 14) rfl rfl Try.func43 (by kernel_rfl) rfl #[.agg #[.slice A0_0 l0_0.length c0_0, .slice A0_1 l0_1.length c0_1], .int .i64 x4_1] rfl (by simp only [mA, mB, mC]; all_goals rfl) ?_; (with_reducible refine (spec_boState.calls k1 _ _ l0_0 _ _ l0_1 x4_1 t139 _ ?side1 ?side2 ?side3 ?side4 A5.out).mono ?_); (case side1 => exact Kd.C_below HR0_0.out HB.out); (case side2 => exact HC0_0.out); (case side3 => exact Kd.C_below HR0_1.out HB.out); (case side4 => exact HC0_1.out); rintro e w12 ⟨rfl, hb⟩; refine ⟨_, rfl, ?_⟩; replace HO_3 := aM (Kd.R_below HO_3.out hb); replace BK137 := aM (blk_below (g := gb137) (o := .cells #[.slice A0_0 l0_0.length c0_0, .slice A0_1 l0_1.length c0_1] 31 (0, 0)) BK137.out hb); replace HB := aM (below_step HB.out hb); (try clear hb); have hcz13_0 : w12.cell? ⟨gb137, 0, none⟩ = some (.slice A0_0 l0_0.length c0_0) := (blk_cell BK137.out 0).trans rfl; have hcz13_1 : w12.cell? ⟨gb137, 1, none⟩ = some (.slice A0_1 l0_1.length c0_1) := (blk_cell BK137.out 1).trans rfl; have hfz13_0 := blk_frozen BK137.out 0; have hfz13_1 := blk_frozen BK137.out 1) | ((with_reducible refine gate_callee (f := 44) rfl ?_); refine goesL_ (some 17) rfl rfl Try.func44 (by kernel_rfl) rfl #[.agg #[.slice A0_0 l0_0.length c0_0, .slice A0_1 l0_1.length c0_1], .string t139] rfl (by simp only [mA, mB, mC]; all_goals rfl) ?_; (with_reducible refine (spec_boFree.calls k1 _ _ l0_0 _ _ l0_1 t139 true _ ?side1 ?side2 ?side3 ?side4 A6.out).mono ?_); (case side1 => exact Kd.C_below HR0_0.out HB.out); (case side2 => exact HC0_0.out); (case side3 => exact Kd.C_below HR0_1.out HB.out); (case side4 => exact HC0_1.out); rintro e w14 ⟨rfl, hb⟩; refine ⟨_, rfl, ?_⟩; replace HO_3 := aM (Kd.R_below HO_3.out hb); replace BK137 := aM (blk_below (g := gb137) (o := .cells #[.slice A0_0 l0_0.length c0_0, .slice A0_1 l0_1.length c0_1] 31 (0, 0)) BK137.out hb); replace HB := aM (below_step HB.out hb); (try clear hb)) | ((with_reducible refine gate_builtin (b := .append) (xs := #[.tmp 18, .tmp 20]) rfl ?_); at_builtin; refine Kd.R_append Kd.string (w0 := w) w.heap.size rfl (.tmp 18) (.tmp 20) 47 9 (.string ⟨#[]⟩) 16 rfl Try.underlying47 info9 rfl (by decide) (by omega) u3 x3_1 t139 [.string t139] (fun _ => True) (fun _ => False) rfl rfl ?aP (fun _ hk => hk.elim) ?aF ?aO ?aB ?aS ?aL ?_; (case aP => exact rfl); (case aB => exact HB.out); (case aF => exact (fun _ _ => trivial)); (case aO => exact HO_3.out); (case aS => exact (below_size HB.out)); (case aL => have := LMc8.out; omega); intro v142 w15 ho hb hg hat; rw [← Ny141.out] at ho; replace BK137 := aM (blk_grown (g := gb137) (o := .cells #[.slice A0_0 l0_0.length c0_0, .slice A0_1 l0_1.length c0_1] 31 (0, 0)) BK137.out hg (Kd.R_ne HO_3.out BK137.out (by decide))); replace HB := aM (hb); have HO143 := aM (ho); clear ho hb hg hat))
      go_roundg k1
      case measure => have := HK1.out; omega
      case rel => exact ⟨(y141), (wrap64 (x4_1 + 1)), rfl, H', ⟨by have := HK1.out; omega⟩, HO143, BK137, HB⟩
     ·rw [if_neg c8] at H
      exact absurd H (by simp)
    ·replace c7 := Bool.eq_false_iff.mpr c7
     subst c7
     have H1 : (spec_boAll.l0 k1 x3_1 (wrap64 (x4_1 + 1)) l0_0 l0_1) = some r := by rw [if_neg (show ¬ (false = true) by decide)] at H; exact H
     clear H; have H := H1; clear H1
     have H' := aM H
     clear H
     have hcz16_0 : wr.cell? ⟨gb137, 0, none⟩ = some (.slice A0_0 l0_0.length c0_0) := (blk_cell BK137.out 0).trans rfl
     have hcz16_1 : wr.cell? ⟨gb137, 1, none⟩ = some (.slice A0_1 l0_1.length c0_1) := (blk_cell BK137.out 1).trans rfl
     have hfz16_0 := blk_frozen BK137.out 0
     have hfz16_1 := blk_frozen BK137.out 1
     go_wp2_with (first | ((with_reducible refine gate_callee (f := 19) rfl ?_); refine goesL_ (some 8) rfl rfl Try.func19 (by kernel_rfl) rfl #[.agg #[.slice A0_0 l0_0.length c0_0, .slice A0_1 l0_1.length c0_1]] rfl (by simp only [mA, mB, mC]; all_goals rfl) ?_; (with_reducible refine (spec_boCount.calls k1 _ _ l0_0 _ _ l0_1 t138 _ ?side1 ?side2 ?side3 ?side4 A3.out).mono ?_); (case side1 => exact Kd.C_below HR0_0.out HB.out); (case side2 => exact HC0_0.out); (case side3 => exact Kd.C_below HR0_1.out HB.out); (case side4 => exact HC0_1.out); rintro e w17 ⟨rfl, hb⟩; refine ⟨_, rfl, ?_⟩; replace HO_3 := aM (Kd.R_below HO_3.out hb); replace BK137 := aM (blk_below (g := gb137) (o := .cells #[.slice A0_0 l0_0.length c0_0, .slice A0_1 l0_1.length c0_1] 31 (0, 0)) BK137.out hb); replace HB := aM (below_step HB.out hb); (try clear hb); have hcz18_0 : w17.cell? ⟨gb137, 0, none⟩ = some (.slice A0_0 l0_0.length c0_0) := (blk_cell BK137.out 0).trans rfl; have hcz18_1 : w17.cell? ⟨gb137, 1, none⟩ = some (.slice A0_1 l0_1.length c0_1) := (blk_cell BK137.out 1).trans rfl; have hfz18_0 := blk_frozen BK137.out 0; have hfz18_1 := blk_frozen BK137.out 1) | ((with_reducible refine gate_callee (f := 43) rfl ?_); refine goesL_ (some 14) rfl rfl Try.func43 (by kernel_rfl) rfl #[.agg #[.slice A0_0 l0_0.length c0_0, .slice A0_1 l0_1.length c0_1], .int .i64 x4_1] rfl (by simp only [mA, mB, mC]; all_goals rfl) ?_; (with_reducible refine (spec_boState.calls k1 _ _ l0_0 _ _ l0_1 x4_1 t139 _ ?side1 ?side2 ?side3 ?side4 A5.out).mono ?_); (case side1 => exact Kd.C_below HR0_0.out HB.out); (case side2 => exact HC0_0.out); (case side3 => exact Kd.C_below HR0_1.out HB.out); (case side4 => exact HC0_1.out); rintro e w19 ⟨rfl, hb⟩; refine ⟨_, rfl, ?_⟩; replace HO_3 := aM (Kd.R_below HO_3.out hb); replace BK137 := aM (blk_below (g := gb137) (o := .cells #[.slice A0_0 l0_0.length c0_0, .slice A0_1 l0_1.length c0_1] 31 (0, 0)) BK137.out hb); replace HB := aM (below_step HB.out hb); (try clear hb); have hcz20_0 : w19.cell? ⟨gb137, 0, none⟩ = some (.slice A0_0 l0_0.length c0_0) := (blk_cell BK137.out 0).trans rfl; have hcz20_1 : w19.cell? ⟨gb137, 1, none⟩ = some (.slice A0_1 l0_1.length c0_1) := (blk_cell BK137.out 1).trans rfl; have hfz20_0 := blk_frozen BK137.out 0; have hfz20_1 := blk_frozen BK137.out 1) | ((with_reducible refine gate_callee (f := 44) rfl ?_); refine goesL_ (some 17) rfl rfl Try.func44 (by kernel_rfl) rfl #[.agg #[.slice A0_0 l0_0.length c0_0, .slice A0_1 l0_1.length c0_1], .string t139] rfl (by simp only [mA, mB, mC]; all_goals rfl) ?_; (with_reducible refine (spec_boFree.calls k1 _ _ l0_0 _ _ l0_1 t139 false _ ?side1 ?side2 ?side3 ?side4 A6.out).mono ?_); (case side1 => exact Kd.C_below HR0_0.out HB.out); (case side2 => exact HC0_0.out); (case side3 => exact Kd.C_below HR0_1.out HB.out); (case side4 => exact HC0_1.out); rintro e w21 ⟨rfl, hb⟩; refine ⟨_, rfl, ?_⟩; replace HO_3 := aM (Kd.R_below HO_3.out hb); replace BK137 := aM (blk_below (g := gb137) (o := .cells #[.slice A0_0 l0_0.length c0_0, .slice A0_1 l0_1.length c0_1] 31 (0, 0)) BK137.out hb); replace HB := aM (below_step HB.out hb); (try clear hb)))
     go_roundg k1
     case measure => have := HK1.out; omega
     case rel => exact ⟨(x3_1), (wrap64 (x4_1 + 1)), rfl, H', ⟨by have := HK1.out; omega⟩, HO_3, BK137, HB⟩
   ·rw [if_neg c4] at H
    have c4b0 : decide (x4_1 < t138) = false := decide_eq_false c4
    clear c4
    obtain rfl := Option.some.inj H
    have hcz22_0 : wr.cell? ⟨gb137, 0, none⟩ = some (.slice A0_0 l0_0.length c0_0) := (blk_cell BK137.out 0).trans rfl
    have hcz22_1 : wr.cell? ⟨gb137, 1, none⟩ = some (.slice A0_1 l0_1.length c0_1) := (blk_cell BK137.out 1).trans rfl
    have hfz22_0 := blk_frozen BK137.out 0
    have hfz22_1 := blk_frozen BK137.out 1
    go_wp2_with (first | ((with_reducible refine gate_callee (f := 19) rfl ?_); refine goesL_ (some 8) rfl rfl Try.func19 (by kernel_rfl) rfl #[.agg #[.slice A0_0 l0_0.length c0_0, .slice A0_1 l0_1.length c0_1]] rfl (by simp only [mA, mB, mC]; all_goals rfl) ?_; (with_reducible refine (spec_boCount.calls k1 _ _ l0_0 _ _ l0_1 t138 _ ?side1 ?side2 ?side3 ?side4 A3.out).mono ?_); (case side1 => exact Kd.C_below HR0_0.out HB.out); (case side2 => exact HC0_0.out); (case side3 => exact Kd.C_below HR0_1.out HB.out); (case side4 => exact HC0_1.out); rintro e w23 ⟨rfl, hb⟩; refine ⟨_, rfl, ?_⟩; replace HO_3 := aM (Kd.R_below HO_3.out hb); replace BK137 := aM (blk_below (g := gb137) (o := .cells #[.slice A0_0 l0_0.length c0_0, .slice A0_1 l0_1.length c0_1] 31 (0, 0)) BK137.out hb); replace HB := aM (below_step HB.out hb); (try clear hb)))
    go_ret
    exact ⟨_, rfl, HO_3.out, HB.out⟩

/-! ### spec_boNumber: function 21 -/
def spec_boNumber.l0 : Nat → ByteArray → Int → List Int → Int → Int → Option (Int)
 | 0, _, _, _, _, _ => none
 | k + 1, x1, x5, x9, x10, x11 => if x11 < x10 then (if 0 ≤ x11 then (if x11 < (x9.length : Int) then (if x11 < (x1.size : Int) then (spec_boNumber.l0 k x1 (wrap64 ((wrap64 (x5 * (rd x9 x11))) + (((bt x1 x11) - 48) % 256))) x9 x10 (wrap64 (x11 + 1))) else (none)) else (none)) else (none)) else (some x5)
def spec_boNumber.f (k : Nat) (l0_0 : List Int) (l0_1 : List (S77)) (a1 : ByteArray) : Option (Int) := spec_boNumber.l0 k a1 0 l0_0 (l0_0.length : Int) 0
theorem spec_boNumber.mono_l : ∀ k, (∀ y0 y1 y2 y3 y4, LeO (spec_boNumber.l0 k y0 y1 y2 y3 y4) (spec_boNumber.l0 (k + 1) y0 y1 y2 y3 y4))
 | 0 => fun _ _ _ _ _ r h => by simp [spec_boNumber.l0] at h
 | k + 1 => by
  have ih0 := spec_boNumber.mono_l k
  ·intro y0 y1 y2 y3 y4
   unfold spec_boNumber.l0
   repeat' first
   | (with_reducible exact ih0 _ _ _ _ _)
   | (with_reducible exact LeO.refl _)
   | (with_reducible exact LeO.none _)
   | (with_reducible refine LeO.ite ?_ ?_)
   | (with_reducible refine LeO.bind ?_ (fun _ => ?_))
   | exact ih0 _ _ _ _ _
   | exact LeO.none _
   | refine LeO.ite ?_ ?_
   | refine LeO.bind ?_ (fun _ => ?_)
theorem spec_boNumber.mono : ∀ a0 a1 a2 k, LeO (spec_boNumber.f k a0 a1 a2) (spec_boNumber.f (k + 1) a0 a1 a2) := by
 intro a0 a1 a2 k
 have ih0 := spec_boNumber.mono_l k
 unfold spec_boNumber.f
 repeat' first
   | (with_reducible exact ih0 _ _ _ _ _)
   | (with_reducible exact LeO.refl _)
   | (with_reducible exact LeO.none _)
   | (with_reducible refine LeO.ite ?_ ?_)
   | (with_reducible refine LeO.bind ?_ (fun _ => ?_))
   | exact ih0 _ _ _ _ _
   | exact LeO.none _
   | refine LeO.ite ?_ ?_
   | refine LeO.bind ?_ (fun _ => ?_)
set_option maxHeartbeats 8000000 in
set_option maxRecDepth 100000 in
theorem spec_boNumber.calls (k : Nat) (A0_0 : Option Addr) (c0_0 : Nat) (l0_0 : List Int) (A0_1 : Option Addr) (c0_1 : Nat) (l0_1 : List (S77)) (a1 : ByteArray) (r : Int) (w : World) (hr0_0 : Kd.C (Kd.int .i64) w A0_0 l0_0.length l0_0) (hc0_0 : l0_0.length ≤ c0_0) (hr0_1 : Kd.C k77 w A0_1 l0_1.length l0_1) (hc0_1 : l0_1.length ≤ c0_1) (h : spec_boNumber.f k l0_0 l0_1 a1 = some r) :
  Calls Try.prog 21 #[.agg #[.slice A0_0 l0_0.length c0_0, .slice A0_1 l0_1.length c0_1], .string a1] w fun e w' => e = .returned (.int .i64 r) ∧ Below w.heap.size w w' := by
 have hu31 := Try.underlying31
 have HR0_0 := aM hr0_0
 have HC0_0 := aM hc0_0
 clear hr0_0 hc0_0
 have HR0_1 := aM hr0_1
 have HC0_1 := aM hc0_1
 clear hr0_1 hc0_1
 have HB := aM (Below.refl w.heap.size w)
 have H : (spec_boNumber.l0 k a1 0 l0_0 (l0_0.length : Int) 0) = some r := h
 clear h
 have H' := aM H
 clear H
 go_enter Try.func21, Try.ntmps21
 go_wp2_with (first | ((with_reducible refine gate_dst (N := 2) rfl ?_); refine box_event ?hg (N := 2) ?hd (cs := #[.slice A0_0 l0_0.length c0_0, .slice A0_1 l0_1.length c0_1]) (t := 31) ?hr ?_; (case hd => rfl); (case hg => rfl); (case hr => go_simp); intro gb144 hg w3 hbox hb; have BK144 := aM (hbox); have GW144 := aM ((by rw [hg]; exact (below_size HB.out) : w.heap.size ≤ gb144)); replace HB := aM (below_step HB.out hb); have GE144 := GW144; clear hb hbox hg; have hcz4_0 : w3.cell? ⟨gb144, 0, none⟩ = some (.slice A0_0 l0_0.length c0_0) := (blk_cell BK144.out 0).trans rfl; have hcz4_1 : w3.cell? ⟨gb144, 1, none⟩ = some (.slice A0_1 l0_1.length c0_1) := (blk_cell BK144.out 1).trans rfl; have hfz4_0 := blk_frozen BK144.out 0; have hfz4_1 := blk_frozen BK144.out 1))
 go_loopg [5, 11] k (fun kq v5 v11 w' => ∃ (x5_1 : Int) (x11_1 : Int), v5 = .int .i64 x5_1 ∧ v11 = .int .i64 x11_1 ∧ Aside0 (spec_boNumber.l0 kq a1 x5_1 l0_0 (l0_0.length : Int) x11_1 = some r) ∧ Aside0 (kq ≤ k) ∧ Aside0 (w'.heap[gb144]? = some (.cells #[(.slice A0_0 l0_0.length c0_0), (.slice A0_1 l0_1.length c0_1)] 31 (0, 0))) ∧ Aside0 (Below w.heap.size w w'))
 case atStart => exact ⟨(0), (0), rfl, rfl, H', ⟨Nat.le_refl _⟩, BK144, HB⟩
 case round =>
  clear H'
  try clear c2
  try clear p2
  try clear hcz4_0
  try clear hcz4_1
  try clear hfz4_0
  try clear hfz4_1
  obtain ⟨x5_1, x11_1, rfl, rfl, HA, HK1, BK144, HB⟩ := hrel
  cases gk with
  | zero => exact absurd HA.out (by simp [spec_boNumber.l0])
  | succ k1 =>
   have H := HA.out
   clear HA
   simp only [spec_boNumber.l0] at H
   by_cases c5 : x11_1 < (l0_0.length : Int)
   ·rw [if_pos c5] at H
    have c5b0 : decide (x11_1 < (l0_0.length : Int)) = true := decide_eq_true c5
    clear c5
    by_cases c6 : 0 ≤ x11_1
    ·rw [if_pos c6] at H
     have c6b0 : decide (0 ≤ x11_1) = true := decide_eq_true c6
     clear c6
     by_cases c7 : x11_1 < (l0_0.length : Int)
     ·rw [if_pos c7] at H
      have c7b0 : decide (x11_1 < (l0_0.length : Int)) = true := decide_eq_true c7
      clear c7
      by_cases c8 : x11_1 < (a1.size : Int)
      ·rw [if_pos c8] at H
       have c8b0 : decide (x11_1 < (a1.size : Int)) = true := decide_eq_true c8
       clear c8
       have H' := aM H
       clear H
       have p145 : 0 ≤ (x11_1 : Int) := oT (by assumption)
       have q145 : x11_1 < (l0_0.length : Int) := oT (by assumption)
       obtain ⟨ad145, e145, hx145_0⟩ := Kd.at_int HR0_0.out x11_1 p145 q145
       cases e145
       replace hx145_0 := (HB.out.cell (World.block_lt_of_cell? w _ hx145_0)).trans hx145_0
       replace p145 := eq_true p145
       replace q145 := eq_true q145
       have p9 : 0 ≤ (x11_1 : Int) := oT (by assumption)
       have q9 : x11_1 < (a1.size : Int) := oT (by assumption)
       have hx9 := bt_at a1 x11_1
       replace p9 := eq_true p9
       replace q9 := eq_true q9
       go_wp2
       go_roundg k1
       case measure => have := HK1.out; omega
       case rel => exact ⟨(wrap64 ((wrap64 (x5_1 * (rd l0_0 x11_1))) + (((bt a1 x11_1) - 48) % 256))), (wrap64 (x11_1 + 1)), rfl, rfl, H', ⟨by have := HK1.out; omega⟩, BK144, HB⟩
      ·rw [if_neg c8] at H
       exact absurd H (by simp)
     ·rw [if_neg c7] at H
      exact absurd H (by simp)
    ·rw [if_neg c6] at H
     exact absurd H (by simp)
   ·rw [if_neg c5] at H
    have c5b0 : decide (x11_1 < (l0_0.length : Int)) = false := decide_eq_false c5
    clear c5
    obtain rfl := Option.some.inj H
    go_wp2
    go_ret
    exact ⟨rfl, HB.out⟩

end Go.Proofs.Ytehhfcbhoaocdaa.PP
