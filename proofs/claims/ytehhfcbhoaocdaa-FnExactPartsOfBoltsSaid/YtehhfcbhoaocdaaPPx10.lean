-- written by a program of this session's (wip/tools), over the kit's print
import Derived.Test.YtehhfcbhoaocdaaPPx0
import Derived.Test.YtehhfcbhoaocdaaPPx7
import Derived.Test.YtehhfcbhoaocdaaPPx8
import Derived.Test.YtehhfcbhoaocdaaPPx9
-- squeezed
-- squeezed twice
namespace Go.Proofs.Ytehhfcbhoaocdaa.PP
open Go.RowKit Go.Proofs.YtehhfcbhoaocdaaW.PrintWords Go.Proofs.YtehhfcbhoaocdaaW.PrintLast Go.Proofs.YtehhfcbhoaocdaaW.PrintMore
attribute [local go_sem] max2_int min2_int max_two min_two max_three min_three max_four min_four   -- for this text's walks alone
set_option linter.unusedVariables false
set_option linter.unusedSimpArgs false

/-! ### impl_AreBolts_2: function 51 (told by hand) -/
/-- The function value of impl.AreBolts that tells whether a block is none of the bolts'. -/
def impl_AreBolts_2.rule (l0 : List Int) (l1 : List S77) (_ : Nat) (x y z u : Int) : Option Bool := (impl_Bolts_isBlock.f l0 l1 x y z u).bind fun t => some (!t)
theorem impl_AreBolts_2.rule_mono (l0 : List Int) (l1 : List S77) : ∀ x y z u n, LeO (impl_AreBolts_2.rule l0 l1 n x y z u) (impl_AreBolts_2.rule l0 l1 (n + 1) x y z u) := fun _ _ _ _ _ => LeO.refl _
set_option maxHeartbeats 8000000 in
set_option maxRecDepth 100000 in
theorem impl_AreBolts_2.calls (B : Nat) (A0 : Option Addr) (c0 : Nat) (l0 : List Int) (A1 : Option Addr) (c1 : Nat) (l1 : List S77) (k : Nat) (x y z u : Int) (b : Bool) (w : World) (hbk : w.heap[B]? = some (.cells #[.slice A0 l0.length c0, .slice A1 l1.length c1] 31 (0, 0)))
  (hr0 : Kd.C (Kd.int .i64) w A0 l0.length l0) (hc0 : l0.length ≤ c0) (hr1 : Kd.C k77 w A1 l1.length l1) (hc1 : l1.length ≤ c1) (h : impl_AreBolts_2.rule l0 l1 k x y z u = some b) :
  Calls Try.prog 51 (#[.agg #[.int .i64 x, .int .i64 y, .int .i64 z, .int .i64 u]] ++ #[.pointer (some ⟨B, 0, none⟩)]) w fun e w' => e = .returned (.bool b) ∧ Below w.heap.size w w' := by
 show Calls Try.prog 51 #[.agg #[.int .i64 x, .int .i64 y, .int .i64 z, .int .i64 u], .pointer (some ⟨B, 0, none⟩)] w _
 have hu1 := Try.underlying31
 have hu2 := Try.underlying77
 unfold impl_AreBolts_2.rule at h
 obtain ⟨t, A1_, h⟩ := Option.bind_eq_some_iff.mp h
 obtain rfl := Option.some.inj h
 clear h
 have HR0 := aM hr0
 have HR1 := aM hr1
 have HA := aM A1_
 have HBK := aM hbk
 clear hr0 hr1 A1_ hbk
 go_enter Try.func51, Try.ntmps51
 go_wp2_with (first | ((with_reducible refine gate_dst (N := 2) rfl ?_); refine box_event ?hg (N := 2) ?hd (cs := #[.int .i64 x, .int .i64 y, .int .i64 z, .int .i64 u]) (t := 77) ?hr ?_; (case hd => rfl); (case hg => rfl); (case hr => first | (go_simp; done) | (go_simp; rfl)); intro gb hg w5 hbox hb; have BK := aM (blk_below (g := B) (o := .cells #[.slice A0 l0.length c0, .slice A1 l1.length c1] 31 (0, 0)) HBK.out hb); have HB := aM hb; have hz0 : w5.cell? ⟨B, 0, none⟩ = some (.slice A0 l0.length c0) := (blk_cell BK.out 0).trans rfl; have hz1 : w5.cell? ⟨B, 1, none⟩ = some (.slice A1 l1.length c1) := (blk_cell BK.out 1).trans rfl; have hy0 : w5.cell? ⟨gb, 0, none⟩ = some (.int .i64 x) := (blk_cell hbox 0).trans rfl; have hy1 : w5.cell? ⟨gb, 1, none⟩ = some (.int .i64 y) := (blk_cell hbox 1).trans rfl; have hy2 : w5.cell? ⟨gb, 2, none⟩ = some (.int .i64 z) := (blk_cell hbox 2).trans rfl; have hy3 : w5.cell? ⟨gb, 3, none⟩ = some (.int .i64 u) := (blk_cell hbox 3).trans rfl; clear hb hbox hg) | (go_at_call 52; (with_reducible refine (impl_Bolts_isBlock.calls A0 c0 l0 A1 c1 l1 x y z u t _ (Kd.C_below HR0.out HB.out) hc0 (Kd.C_below HR1.out HB.out) hc1 HA.out).mono ?_); rintro e w6 ⟨rfl, hb⟩; have HB6 := aM (below_step HB.out hb); clear hb))
 go_ret
 exact ⟨rfl, HB6.out⟩

/-! ### impl_AreBolts: function 25 (told by hand) -/
def impl_AreBolts_1.rule (_ : Nat) (x : Int) : Option Bool := impl_AreBolts_1.f x
theorem impl_AreBolts_1.rule_mono : ∀ x n, LeO (impl_AreBolts_1.rule n x) (impl_AreBolts_1.rule (n + 1) x) := fun _ _ => LeO.refl _
theorem impl_AreBolts_1.rule_calls (j : Nat) (x : Int) (b : Bool) (W : World) (h : impl_AreBolts_1.rule j x = some b) : Calls Try.prog 48 (#[.int .i64 x] ++ #[]) W fun e w' => e = .returned (.bool b) ∧ Below W.heap.size W w' := by
 refine (impl_AreBolts_1.calls x b W h).mono ?_
 rintro e w' ⟨rfl, ⟨nd, rfl⟩⟩
 exact ⟨rfl, pw_below_drewN (Below.refl _ _) _⟩
def impl_AreBolts.j0 : Nat → Bool → List Int → List (S77) → Option (Bool)
 | 0, _, _, _ => none
 | k + 1, x18, x192000, x192001 => if x18 = true then (some false) else ((impl_product.f k x192000).bind fun t194 => (if t194 ≤ 1000 then ((slices_ContainsFunc_Block.f (impl_AreBolts_2.rule x192000 x192001) k x192001).bind fun t195 => (some (!t195))) else (some false)))
def impl_AreBolts.f (k : Nat) (l0_0 : List Int) (l0_1 : List (S77)) : Option (Bool) := (impl_in.f (l0_0.length : Int) 1 6).bind fun t192 => (if t192 = true then (if (l0_1.length : Int) > 40 then (impl_AreBolts.j0 k true l0_0 l0_1) else ((slices_ContainsFunc_int_int.f impl_AreBolts_1.rule k l0_0).bind fun t193 => (impl_AreBolts.j0 k t193 l0_0 l0_1))) else (impl_AreBolts.j0 k true l0_0 l0_1))
theorem impl_AreBolts.mono_l : ∀ k, (∀ y0 y1 y2, LeO (impl_AreBolts.j0 k y0 y1 y2) (impl_AreBolts.j0 (k + 1) y0 y1 y2))
 | 0 => fun _ _ _ r h => by simp [impl_AreBolts.j0] at h
 | k + 1 => by
  have ih0 := impl_AreBolts.mono_l k
  ·intro y0 y1 y2
   unfold impl_AreBolts.j0
   repeat' first
   | (with_reducible exact ih0 _ _ _)
   | (with_reducible exact slices_ContainsFunc_Block.mono (impl_AreBolts_2.rule_mono _ _) _ _)
   | (with_reducible exact impl_product.mono _ _)
   | (with_reducible exact slices_ContainsFunc_int_int.mono impl_AreBolts_1.rule_mono _ _)
   | (with_reducible exact LeO.refl _)
   | (with_reducible exact LeO.none _)
   | (with_reducible refine LeO.ite ?_ ?_)
   | (with_reducible refine LeO.bind ?_ (fun _ => ?_))
   | exact ih0 _ _ _
   | exact slices_ContainsFunc_Block.mono (impl_AreBolts_2.rule_mono _ _) _ _
   | exact impl_product.mono _ _
   | exact slices_ContainsFunc_int_int.mono impl_AreBolts_1.rule_mono _ _
   | exact LeO.none _
   | refine LeO.ite ?_ ?_
   | refine LeO.bind ?_ (fun _ => ?_)
theorem impl_AreBolts.mono : ∀ a0 a1 k, LeO (impl_AreBolts.f k a0 a1) (impl_AreBolts.f (k + 1) a0 a1) := by
 intro a0 a1 k
 have ih0 := impl_AreBolts.mono_l k
 unfold impl_AreBolts.f
 repeat' first
   | (with_reducible exact ih0 _ _ _)
   | (with_reducible exact slices_ContainsFunc_Block.mono (impl_AreBolts_2.rule_mono _ _) _ _)
   | (with_reducible exact impl_product.mono _ _)
   | (with_reducible exact slices_ContainsFunc_int_int.mono impl_AreBolts_1.rule_mono _ _)
   | (with_reducible exact LeO.refl _)
   | (with_reducible exact LeO.none _)
   | (with_reducible refine LeO.ite ?_ ?_)
   | (with_reducible refine LeO.bind ?_ (fun _ => ?_))
   | exact ih0 _ _ _
   | exact slices_ContainsFunc_Block.mono (impl_AreBolts_2.rule_mono _ _) _ _
   | exact impl_product.mono _ _
   | exact slices_ContainsFunc_int_int.mono impl_AreBolts_1.rule_mono _ _
   | exact LeO.none _
   | refine LeO.ite ?_ ?_
   | refine LeO.bind ?_ (fun _ => ?_)
set_option maxHeartbeats 8000000 in
set_option maxRecDepth 100000 in
theorem impl_AreBolts.calls (k : Nat) (A0_0 : Option Addr) (c0_0 : Nat) (l0_0 : List Int) (A0_1 : Option Addr) (c0_1 : Nat) (l0_1 : List (S77)) (r : Bool) (w : World) (hr0_0 : Kd.C (Kd.int .i64) w A0_0 l0_0.length l0_0) (hc0_0 : l0_0.length ≤ c0_0) (hr0_1 : Kd.C k77 w A0_1 l0_1.length l0_1) (hc0_1 : l0_1.length ≤ c0_1) (h : impl_AreBolts.f k l0_0 l0_1 = some r) :
  Calls Try.prog 25 #[.agg #[.slice A0_0 l0_0.length c0_0, .slice A0_1 l0_1.length c0_1]] w fun e w' => e = .returned (.bool r) ∧ Below w.heap.size w w' := by
 have hu33 := Try.underlying31
 have HR0_0 := aM hr0_0
 have HC0_0 := aM hc0_0
 clear hr0_0 hc0_0
 have HR0_1 := aM hr0_1
 have HC0_1 := aM hc0_1
 clear hr0_1 hc0_1
 have HB := aM (Below.refl w.heap.size w)
 have H : ((impl_in.f (l0_0.length : Int) 1 6).bind fun t192 => (if t192 = true then (if (l0_1.length : Int) > 40 then (impl_AreBolts.j0 k true l0_0 l0_1) else ((slices_ContainsFunc_int_int.f impl_AreBolts_1.rule k l0_0).bind fun t193 => (impl_AreBolts.j0 k t193 l0_0 l0_1))) else (impl_AreBolts.j0 k true l0_0 l0_1))) = some r := h
 clear h
 have HC2 := aM H
 clear H
 go_enter Try.func25, Try.ntmps25
 go_upto_region 1 with (first | ((with_reducible refine gate_dst (N := 1) rfl ?_); (try (refine gate_guard (by rfl) ?_; dsimp only)); refine box_event ?hg (N := 1) ?hd (cs := #[.slice A0_0 l0_0.length c0_0, .slice A0_1 l0_1.length c0_1]) (t := 31) ?hr ?_; (case hd => rfl); (case hg => rfl); (case hr => first | (go_simp; done) | (go_simp; rfl)); intro gb191 hg w3 hbox hb; have n0_ := aM (below_step (by repeat (first | (with_reducible first | exact HB.out | apply bA | apply bN | apply bD) | exact HB.out)) hb); have n1_ := aM (hbox); have n2_ := aM ((by rw [hg]; exact (below_size (by repeat (first | (with_reducible first | exact HB.out | apply bA | apply bN | apply bD) | exact HB.out))) : w.heap.size ≤ gb191)); have n3_ := aM ((by rw [hg]; exact (below_size (by repeat (first | (with_reducible first | exact HB.out | apply bA | apply bN | apply bD) | exact HB.out))) : w.heap.size ≤ gb191)); clear HB; have HB := n0_; have BK191 := n1_; have GW191 := n2_; have GE191 := n3_; clear n0_ n1_ n2_ n3_; clear hb hbox hg))
 (try simp only [Act.put, sA, sB, sC])
 go_cut [18] (fun v18 wc => ∃ (kq : Nat) (x18_1 : Bool), v18 = .bool x18_1 ∧ Aside0 (impl_AreBolts.j0 kq x18_1 l0_0 l0_1 = some r) ∧ Aside0 (kq ≤ k) ∧ Aside0 (wc.heap[gb191]? = some (.cells #[(.slice A0_0 l0_0.length c0_0), (.slice A0_1 l0_1.length c0_1)] 31 (0, 0))) ∧ Aside0 (Below w.heap.size w wc))
 case first =>
  have H := HC2.out
  clear HC2
  replace H := Option.bind_eq_some_iff.mp H
  obtain ⟨t192, A40, H⟩ := H
  replace H : (if t192 = true then (if (l0_1.length : Int) > 40 then (impl_AreBolts.j0 k true l0_0 l0_1) else ((slices_ContainsFunc_int_int.f impl_AreBolts_1.rule k l0_0).bind fun t193 => (impl_AreBolts.j0 k t193 l0_0 l0_1))) else (impl_AreBolts.j0 k true l0_0 l0_1)) = some r := H
  have A4 := aM A40
  clear A40
  by_cases c5 : t192 = true
  ·subst c5
   have H1 : (if (l0_1.length : Int) > 40 then (impl_AreBolts.j0 k true l0_0 l0_1) else ((slices_ContainsFunc_int_int.f impl_AreBolts_1.rule k l0_0).bind fun t193 => (impl_AreBolts.j0 k t193 l0_0 l0_1))) = some r := by rw [if_pos rfl] at H; exact H
   clear H; have H := H1; clear H1
   by_cases c6 : (l0_1.length : Int) > 40
   ·rw [if_pos c6] at H
    have c6b0 : decide (40 < (l0_1.length : Int)) = true := decide_eq_true c6
    have c6b1 : decide (40 < l0_1.length) = true := decide_eq_true (by omega)
    clear c6
    (first | rw [c6b0] | (simp only [i64_w, i32_w]; rw [c6b0]) | skip)
    have H' := aM H
    clear H
    have hcz7_0 : w3.cell? ⟨gb191, 0, none⟩ = some (.slice A0_0 l0_0.length c0_0) := (blk_cell BK191.out 0).trans rfl
    have hcz7_1 : w3.cell? ⟨gb191, 1, none⟩ = some (.slice A0_1 l0_1.length c0_1) := (blk_cell BK191.out 1).trans rfl
    have hfz7_0 := blk_frozen BK191.out 0
    have hfz7_1 := blk_frozen BK191.out 1
    go_wp2_with (first | ((with_reducible refine gate_callee (f := 46) rfl ?_); refine goesL_ (some 6) rfl rfl Try.func46 (by kernel_rfl) rfl #[.int .i64 (l0_0.length : Int), .int .i64 1, .int .i64 6] rfl (by (try simp only [List.map_toArray, List.map_cons, List.map_nil]); first | done | rfl | (simp only [List.length_drop, List.length_take]; rfl)) ?_; (with_reducible refine (impl_in.calls (l0_0.length : Int) 1 6 true _ A4.out).mono ?_); rintro e w' ⟨rfl, ⟨nd, rfl⟩⟩; refine ⟨_, rfl, ?_⟩))
    go_meet
    case rel => exact ⟨_, (true), (by first | rfl | (simp; done) | (simp [*]; done)), H', ⟨by first | omega | exact Nat.le_refl _⟩, ⟨by (with_reducible repeat (first | refine kN ?_ _ | refine kD ?_ | refine kA ?_ _)); exact BK191.out⟩, ⟨by repeat (first | (with_reducible first | exact HB.out | apply bA | apply bN | apply bD | refine bS ?_ GE191.out) | exact HB.out)⟩⟩
   ·rw [if_neg c6] at H
    have c6b0 : decide (40 < (l0_1.length : Int)) = false := decide_eq_false c6
    have c6b1 : decide (40 < l0_1.length) = false := decide_eq_false (by omega)
    clear c6
    (first | rw [c6b0] | (simp only [i64_w, i32_w]; rw [c6b0]) | skip)
    replace H := Option.bind_eq_some_iff.mp H
    obtain ⟨t193, A80, H⟩ := H
    replace H : (impl_AreBolts.j0 k t193 l0_0 l0_1) = some r := H
    have A8 := aM A80
    clear A80
    have H' := aM H
    clear H
    have hcz9_0 : w3.cell? ⟨gb191, 0, none⟩ = some (.slice A0_0 l0_0.length c0_0) := (blk_cell BK191.out 0).trans rfl
    have hcz9_1 : w3.cell? ⟨gb191, 1, none⟩ = some (.slice A0_1 l0_1.length c0_1) := (blk_cell BK191.out 1).trans rfl
    have hfz9_0 := blk_frozen BK191.out 0
    have hfz9_1 := blk_frozen BK191.out 1
    go_wp2_with (first | ((with_reducible refine gate_callee (f := 46) rfl ?_); refine goesL_ (some 6) rfl rfl Try.func46 (by kernel_rfl) rfl #[.int .i64 (l0_0.length : Int), .int .i64 1, .int .i64 6] rfl (by (try simp only [List.map_toArray, List.map_cons, List.map_nil]); first | done | rfl | (simp only [List.length_drop, List.length_take]; rfl)) ?_; (with_reducible refine (impl_in.calls (l0_0.length : Int) 1 6 true _ A4.out).mono ?_); rintro e w' ⟨rfl, ⟨nd, rfl⟩⟩; refine ⟨_, rfl, ?_⟩) | (go_at_call 47; (with_reducible refine (slices_ContainsFunc_int_int.calls 48 #[] (Go.Proofs.enters_of Try.func48 (by kernel_rfl) rfl) impl_AreBolts_1.rule k _ _ l0_0 t193 _ ?side1 ?side2 (fun j x b W' _ hj => impl_AreBolts_1.rule_calls j x b W' hj) A8.out).mono ?_); (case side1 => repeat (first | exact (Kd.C_below HR0_0.out (by repeat (first | (with_reducible first | exact HB.out | apply bA | apply bN | apply bD | refine bS ?_ GE191.out) | exact HB.out))) | (with_reducible refine cA ?_ _) | (with_reducible refine cN ?_ _) | (with_reducible refine cD ?_))); (case side2 => exact HC0_0.out); rintro e w10 ⟨rfl, hb⟩; have n0_ := aM (blk_below (g := gb191) (o := .cells #[.slice A0_0 l0_0.length c0_0, .slice A0_1 l0_1.length c0_1] 31 (0, 0)) (by (with_reducible repeat (first | refine kN ?_ _ | refine kD ?_ | refine kA ?_ _)); exact BK191.out) hb); have n1_ := aM (below_step (by repeat (first | (with_reducible first | exact HB.out | apply bA | apply bN | apply bD | refine bS ?_ GE191.out) | exact HB.out)) hb); clear BK191; clear HB; have BK191 := n0_; have HB := n1_; clear n0_ n1_; (try clear hb); (try clear hb2); (try clear hk); (try clear hi)))
    go_meet
    case rel => exact ⟨_, (t193), (by first | rfl | (simp; done) | (simp [*]; done)), H', ⟨by first | omega | exact Nat.le_refl _⟩, ⟨by (with_reducible repeat (first | refine kN ?_ _ | refine kD ?_ | refine kA ?_ _)); exact BK191.out⟩, ⟨by repeat (first | (with_reducible first | exact HB.out | apply bA | apply bN | apply bD | refine bS ?_ GE191.out) | exact HB.out)⟩⟩
  ·replace c5 := Bool.eq_false_iff.mpr c5
   subst c5
   have H1 : (impl_AreBolts.j0 k true l0_0 l0_1) = some r := by rw [if_neg (show ¬ (false = true) by decide)] at H; exact H
   clear H; have H := H1; clear H1
   have H' := aM H
   clear H
   have hcz11_0 : w3.cell? ⟨gb191, 0, none⟩ = some (.slice A0_0 l0_0.length c0_0) := (blk_cell BK191.out 0).trans rfl
   have hcz11_1 : w3.cell? ⟨gb191, 1, none⟩ = some (.slice A0_1 l0_1.length c0_1) := (blk_cell BK191.out 1).trans rfl
   have hfz11_0 := blk_frozen BK191.out 0
   have hfz11_1 := blk_frozen BK191.out 1
   go_wp2_with (first | ((with_reducible refine gate_callee (f := 46) rfl ?_); refine goesL_ (some 6) rfl rfl Try.func46 (by kernel_rfl) rfl #[.int .i64 (l0_0.length : Int), .int .i64 1, .int .i64 6] rfl (by (try simp only [List.map_toArray, List.map_cons, List.map_nil]); first | done | rfl | (simp only [List.length_drop, List.length_take]; rfl)) ?_; (with_reducible refine (impl_in.calls (l0_0.length : Int) 1 6 false _ A4.out).mono ?_); rintro e w' ⟨rfl, ⟨nd, rfl⟩⟩; refine ⟨_, rfl, ?_⟩))
   go_meet
   case rel => exact ⟨_, (true), (by first | rfl | (simp; done) | (simp [*]; done)), H', ⟨by first | omega | exact Nat.le_refl _⟩, ⟨by (with_reducible repeat (first | refine kN ?_ _ | refine kD ?_ | refine kA ?_ _)); exact BK191.out⟩, ⟨by repeat (first | (with_reducible first | exact HB.out | apply bA | apply bN | apply bD | refine bS ?_ GE191.out) | exact HB.out)⟩⟩
 case rest =>
  clear HC2
  try clear p2
  try clear c5
  try clear c6
  try clear c6b0
  try clear c6b1
  try clear c8
  try clear hcz11_0
  try clear hcz11_1
  try clear hcz7_0
  try clear hcz7_1
  try clear hcz9_0
  try clear hcz9_1
  try clear hfz11_0
  try clear hfz11_1
  try clear hfz7_0
  try clear hfz7_1
  try clear hfz9_0
  try clear hfz9_1
  obtain ⟨kq, x18_1, rfl, HA, HJ1, BK191, HB⟩ := hcut
  cases kq with
  | zero => exact absurd HA.out (by simp [impl_AreBolts.j0])
  | succ kj1 =>
   have H := HA.out
   clear HA
   simp only [impl_AreBolts.j0] at H
   by_cases c12 : x18_1 = true
   ·subst c12
    have H1 : (some false) = some r := by rw [if_pos rfl] at H; exact H
    clear H; have H := H1; clear H1
    obtain rfl := Option.some.inj H
    go_wp2
    go_ret
    exact ⟨by first | rfl | (simp [errW_none, errW_some] <;> rfl) | (simp [*, errW_none, errW_some] <;> rfl), by repeat (first | (with_reducible first | exact HB.out | apply bA | apply bN | apply bD | refine bS ?_ GE191.out) | exact HB.out)⟩
   ·replace c12 := Bool.eq_false_iff.mpr c12
    subst c12
    have H1 : ((impl_product.f kj1 l0_0).bind fun t194 => (if t194 ≤ 1000 then ((slices_ContainsFunc_Block.f (impl_AreBolts_2.rule l0_0 l0_1) kj1 l0_1).bind fun t195 => (some (!t195))) else (some false))) = some r := by rw [if_neg (show ¬ (false = true) by decide)] at H; exact H
    clear H; have H := H1; clear H1
    replace H := Option.bind_eq_some_iff.mp H
    obtain ⟨t194, A130, H⟩ := H
    replace H : (if t194 ≤ 1000 then ((slices_ContainsFunc_Block.f (impl_AreBolts_2.rule l0_0 l0_1) kj1 l0_1).bind fun t195 => (some (!t195))) else (some false)) = some r := H
    have A13 := aM A130
    clear A130
    by_cases c14 : t194 ≤ 1000
    ·rw [if_pos c14] at H
     have c14b0 : decide (t194 ≤ 1000) = true := decide_eq_true c14
     clear c14
     replace H := Option.bind_eq_some_iff.mp H
     obtain ⟨t195, A150, H⟩ := H
     replace H : (some (!t195)) = some r := H
     have A15 := aM A150
     clear A150
     obtain rfl := Option.some.inj H
     have hcz16_0 : wc.cell? ⟨gb191, 0, none⟩ = some (.slice A0_0 l0_0.length c0_0) := (blk_cell BK191.out 0).trans rfl
     have hcz16_1 : wc.cell? ⟨gb191, 1, none⟩ = some (.slice A0_1 l0_1.length c0_1) := (blk_cell BK191.out 1).trans rfl
     have hfz16_0 := blk_frozen BK191.out 0
     have hfz16_1 := blk_frozen BK191.out 1
     go_wp2_with (first | ((with_reducible refine gate_callee (f := 49) rfl ?_); refine goesL_ (some 21) rfl rfl Try.func49 (by kernel_rfl) rfl #[.slice A0_0 l0_0.length c0_0] rfl (by (try simp only [List.map_toArray, List.map_cons, List.map_nil]); first | done | rfl | (simp only [List.length_drop, List.length_take]; rfl)) ?_; (with_reducible refine (impl_product.calls kj1 _ _ l0_0 t194 _ ?side1 ?side2 A13.out).mono ?_); (case side1 => repeat (first | exact (Kd.C_below HR0_0.out HB.out) | (with_reducible refine cA ?_ _) | (with_reducible refine cN ?_ _) | (with_reducible refine cD ?_))); (case side2 => exact HC0_0.out); rintro e w' ⟨rfl, ⟨nd, rfl⟩⟩; refine ⟨_, rfl, ?_⟩) | (go_at_call 50; (with_reducible refine (slices_ContainsFunc_Block.calls 51 #[.pointer (some ⟨gb191, 0, none⟩)] (Go.Proofs.enters_of Try.func51 (by kernel_rfl) rfl) (impl_AreBolts_2.rule l0_0 l0_1) kj1 _ _ l0_1 t195 _ ?side1 ?side2 (fun j x y z u b W' hb' hj => impl_AreBolts_2.calls gb191 A0_0 c0_0 l0_0 A0_1 c0_1 l0_1 j x y z u b W' (blk_below (g := gb191) (o := .cells #[.slice A0_0 l0_0.length c0_0, .slice A0_1 l0_1.length c0_1] 31 (0, 0)) (by (with_reducible repeat (first | refine kN ?_ _ | refine kD ?_ | refine kA ?_ _)); exact BK191.out) hb') (Kd.C_below (Kd.C_below HR0_0.out (by repeat (first | (with_reducible first | exact HB.out | apply bA | apply bN | apply bD | refine bS ?_ GE191.out) | exact HB.out))) hb') HC0_0.out (Kd.C_below (Kd.C_below HR0_1.out (by repeat (first | (with_reducible first | exact HB.out | apply bA | apply bN | apply bD | refine bS ?_ GE191.out) | exact HB.out))) hb') HC0_1.out hj) A15.out).mono ?_); (case side1 => repeat (first | exact (Kd.C_below HR0_1.out (by repeat (first | (with_reducible first | exact HB.out | apply bA | apply bN | apply bD | refine bS ?_ GE191.out) | exact HB.out))) | (with_reducible refine cA ?_ _) | (with_reducible refine cN ?_ _) | (with_reducible refine cD ?_))); (case side2 => exact HC0_1.out); rintro e w17 ⟨rfl, hb⟩; have n0_ := aM (blk_below (g := gb191) (o := .cells #[.slice A0_0 l0_0.length c0_0, .slice A0_1 l0_1.length c0_1] 31 (0, 0)) (by (with_reducible repeat (first | refine kN ?_ _ | refine kD ?_ | refine kA ?_ _)); exact BK191.out) hb); have n1_ := aM (below_step (by repeat (first | (with_reducible first | exact HB.out | apply bA | apply bN | apply bD | refine bS ?_ GE191.out) | exact HB.out)) hb); clear BK191; clear HB; have BK191 := n0_; have HB := n1_; clear n0_ n1_; (try clear hb); (try clear hb2); (try clear hk); (try clear hi)))
     go_ret
     exact ⟨by first | rfl | (simp [errW_none, errW_some] <;> rfl) | (simp [*, errW_none, errW_some] <;> rfl), by repeat (first | (with_reducible first | exact HB.out | apply bA | apply bN | apply bD | refine bS ?_ GE191.out) | exact HB.out)⟩
    ·rw [if_neg c14] at H
     have c14b0 : decide (t194 ≤ 1000) = false := decide_eq_false c14
     clear c14
     obtain rfl := Option.some.inj H
     have hcz18_0 : wc.cell? ⟨gb191, 0, none⟩ = some (.slice A0_0 l0_0.length c0_0) := (blk_cell BK191.out 0).trans rfl
     have hcz18_1 : wc.cell? ⟨gb191, 1, none⟩ = some (.slice A0_1 l0_1.length c0_1) := (blk_cell BK191.out 1).trans rfl
     have hfz18_0 := blk_frozen BK191.out 0
     have hfz18_1 := blk_frozen BK191.out 1
     go_wp2_with (first | ((with_reducible refine gate_callee (f := 49) rfl ?_); refine goesL_ (some 21) rfl rfl Try.func49 (by kernel_rfl) rfl #[.slice A0_0 l0_0.length c0_0] rfl (by (try simp only [List.map_toArray, List.map_cons, List.map_nil]); first | done | rfl | (simp only [List.length_drop, List.length_take]; rfl)) ?_; (with_reducible refine (impl_product.calls kj1 _ _ l0_0 t194 _ ?side1 ?side2 A13.out).mono ?_); (case side1 => repeat (first | exact (Kd.C_below HR0_0.out HB.out) | (with_reducible refine cA ?_ _) | (with_reducible refine cN ?_ _) | (with_reducible refine cD ?_))); (case side2 => exact HC0_0.out); rintro e w' ⟨rfl, ⟨nd, rfl⟩⟩; refine ⟨_, rfl, ?_⟩))
     go_ret
     exact ⟨by first | rfl | (simp [errW_none, errW_some] <;> rfl) | (simp [*, errW_none, errW_some] <;> rfl), by repeat (first | (with_reducible first | exact HB.out | apply bA | apply bN | apply bD | refine bS ?_ GE191.out) | exact HB.out)⟩


/-! ### impl_searched: function 56 (told by hand) -/
/-- What a search has found so far: the list, the map of the fewest moves, the map of the ways; all in blocks of the call's own. -/
structure impl_searched.St (w w' : World) (gb b1 b2 : Nat) (ok : Nat → Prop) (v : Value) (x : List ByteArray) (f g : ByteArray → Option Int) (c : Nat) : Prop where
 lst : Kd.R Kd.string 9 w' w.heap.size ok v x
 blk : w'.heap[gb]? = some (.cells #[v, .map (some b1), .map (some b2)] 69 (0, 0))
 far : MapS.M w' b1 c f
 way : MapS.M w' b2 c g
 ge : w.heap.size ≤ gb ∧ w.heap.size ≤ b1 ∧ w.heap.size ≤ b2 ∧ b1 ≠ b2
 bel : Below w.heap.size w w'
theorem impl_searched.St.below {w w' w2 : World} {gb b1 b2 : Nat} {ok : Nat → Prop} {v : Value} {x : List ByteArray} {f g : ByteArray → Option Int} {c : Nat} (h : impl_searched.St w w' gb b1 b2 ok v x f g c) (hb : Below w'.heap.size w' w2) : impl_searched.St w w2 gb b1 b2 ok v x f g c :=
 ⟨Kd.R_below h.lst hb, blk_below h.blk hb, MapS.M_below h.far hb, MapS.M_below h.way hb, h.ge, below_step h.bel hb⟩
theorem impl_searched.St.own {w w' : World} {gb b1 b2 : Nat} {ok : Nat → Prop} {v : Value} {x : List ByteArray} {f g : ByteArray → Option Int} {c n : Nat} {b : Nat} {q : ByteArray → Option Int} (h : impl_searched.St w w' gb b1 b2 ok v x f g c) (hM : MapS.M w' b n q) : some b ≠ v.ownBlock := fun e => by
 obtain ⟨cells, hc⟩ := Kd.R_typed h.lst b e.symm
 exact MapS.M_apart hM hc rfl
theorem impl_searched.St.more {w w' : World} {gb b1 b2 : Nat} {ok : Nat → Prop} {v : Value} {x : List ByteArray} {f g : ByteArray → Option Int} {c : Nat} (h : impl_searched.St w w' gb b1 b2 ok v x f g c) : impl_searched.St w w' gb b1 b2 ok v x f g (c + 1) :=
 ⟨h.lst, h.blk, MapS.M_mono h.far (Nat.le_succ _), MapS.M_mono h.way (Nat.le_succ _), h.ge, h.bel⟩
theorem impl_searched.St.put1 {w w' w2 : World} {gb b1 b2 : Nat} {ok : Nat → Prop} {v : Value} {x : List ByteArray} {f f2 g : ByteArray → Option Int} {c : Nat} (h : impl_searched.St w w' gb b1 b2 ok v x f g c) (hM : MapS.M w2 b1 (c + 1) f2) (hg : w'.grownBy w2 (some b1)) : impl_searched.St w w2 gb b1 b2 ok v x f2 g (c + 1) :=
 ⟨Kd.R_grown2 h.lst rfl hg (fun k hk => by cases hk; exact h.own h.far), blk_grown h.blk hg (fun e => MapS.M_apart h.far h.blk (Option.some.inj e)), hM, MapS.M_mono (MapS.M_grown h.way hg (fun e => h.ge.2.2.2 (Option.some.inj e).symm)) (Nat.le_succ _), h.ge, h.bel.grown hg h.bel.size (fun k hk => by cases hk; exact h.ge.2.1)⟩
theorem impl_searched.St.put2 {w w' w2 : World} {gb b1 b2 : Nat} {ok : Nat → Prop} {v : Value} {x : List ByteArray} {f g g2 : ByteArray → Option Int} {c : Nat} (h : impl_searched.St w w' gb b1 b2 ok v x f g c) (hM : MapS.M w2 b2 (c + 1) g2) (hg : w'.grownBy w2 (some b2)) : impl_searched.St w w2 gb b1 b2 ok v x f g2 (c + 1) :=
 ⟨Kd.R_grown2 h.lst rfl hg (fun k hk => by cases hk; exact h.own h.way), blk_grown h.blk hg (fun e => MapS.M_apart h.way h.blk (Option.some.inj e)), MapS.M_mono (MapS.M_grown h.far hg (fun e => h.ge.2.2.2 (Option.some.inj e))) (Nat.le_succ _), hM, h.ge, h.bel.grown hg h.bel.size (fun k hk => by cases hk; exact h.ge.2.2.1)⟩
theorem impl_searched.grown_set (W : World) (g i : Nat) (u : Value) : W.grownBy (W.setCell ⟨g, i, none⟩ u) (some g) :=
 ⟨rfl, rfl, rfl, by simp [World.setCell], fun k _ hk => Below.heap_setCell _ _ _ _ (fun e => hk (by rw [e]))⟩
/-- The list grown, its row put back into the struct. -/
theorem impl_searched.St.push {w w' w1 : World} {gb b1 b2 : Nat} {ok : Nat → Prop} {v v1 : Value} {x x1 : List ByteArray} {f g : ByteArray → Option Int} {c : Nat} (h : impl_searched.St w w' gb b1 b2 ok v x f g c) (ho : Kd.R Kd.string 9 w1 w.heap.size ok v1 x1) (hb : Below w.heap.size w w1) (hg : w'.grownBy w1 v.ownBlock) :
  impl_searched.St w (w1.setCell ⟨gb, 0, none⟩ v1) gb b1 b2 ok v1 x1 f g c := by
 have hk : w1.heap[gb]? = some (.cells #[v, .map (some b1), .map (some b2)] 69 (0, 0)) := blk_grown h.blk hg (Kd.R_ne h.lst h.blk (by decide))
 have h1 := MapS.M_grown h.far hg (h.own h.far)
 have h2 := MapS.M_grown h.way hg (h.own h.way)
 exact ⟨Kd.R_grown2 ho rfl (impl_searched.grown_set w1 gb 0 v1) (fun k hk2 => by cases hk2; exact Kd.R_ne ho hk (by decide)), blk_put hk 0 v1 rfl, MapS.M_set h1 _ _ (fun e => MapS.M_apart h1 hk e.symm), MapS.M_set h2 _ _ (fun e => MapS.M_apart h2 hk e.symm), h.ge, below_set hb h.ge.1⟩
/-- At most so many ways are held. -/
def impl_searched.cap (a : Int) : Int := if 1000000000000001 < a then 1000000000000001 else a
theorem impl_searched.cap_wf {a : Int} (h : (Lit.int .i64 a).wf = true) : (Lit.int .i64 (impl_searched.cap a)).wf = true := by
 unfold impl_searched.cap
 split
 ·decide
 ·exact h
mutual
def impl_searched.l0 (moves : Nat → ByteArray → Option (List ByteArray)) : Nat → List ByteArray → (ByteArray → Option Int) → (ByteArray → Option Int) → Nat → Int → Option (List ByteArray × (ByteArray → Option Int) × (ByteArray → Option Int))
 | 0, _, _, _, _, _ => none
 | k + 1, x, f, g, c, i => if i < (x.length : Int) then (if 0 ≤ i then ((moves k (rdOf ByteArray.empty x i)).bind fun ts => impl_searched.l1 moves k (rdOf ByteArray.empty x i) ts x f g c i 0) else none) else some (x, f, g)
def impl_searched.l1 (moves : Nat → ByteArray → Option (List ByteArray)) : Nat → ByteArray → List ByteArray → List ByteArray → (ByteArray → Option Int) → (ByteArray → Option Int) → Nat → Int → Int → Option (List ByteArray × (ByteArray → Option Int) × (ByteArray → Option Int))
 | 0, _, _, _, _, _, _, _, _ => none
 | k + 1, s, ts, x, f, g, c, i, j => if j < (ts.length : Int) then (if 0 ≤ j then (if s.size ≤ maxLen ∧ (rdOf ByteArray.empty ts j).size ≤ maxLen ∧ c < 4398046511104 ∧ x.length < 4398046511104 then
   (if (f (rdOf ByteArray.empty ts j)).isSome = true then
    (if (f (rdOf ByteArray.empty ts j)).getD 0 = wrap64 ((f s).getD 0 + 1)
     then impl_searched.l1 moves k s ts x f (MapS.upd g (rdOf ByteArray.empty ts j) (impl_searched.cap (wrap64 ((g (rdOf ByteArray.empty ts j)).getD 0 + (g s).getD 0)))) (c + 1) i (wrap64 (j + 1))
     else impl_searched.l1 moves k s ts x f g (c + 1) i (wrap64 (j + 1)))
   else
    (if wrap64 ((f s).getD 0 + 1) = wrap64 ((MapS.upd f (rdOf ByteArray.empty ts j) (wrap64 ((f s).getD 0 + 1)) s).getD 0 + 1)
     then impl_searched.l1 moves k s ts (x ++ [rdOf ByteArray.empty ts j]) (MapS.upd f (rdOf ByteArray.empty ts j) (wrap64 ((f s).getD 0 + 1))) (MapS.upd g (rdOf ByteArray.empty ts j) (impl_searched.cap (wrap64 ((g (rdOf ByteArray.empty ts j)).getD 0 + (g s).getD 0)))) (c + 1 + 1) i (wrap64 (j + 1))
     else impl_searched.l1 moves k s ts (x ++ [rdOf ByteArray.empty ts j]) (MapS.upd f (rdOf ByteArray.empty ts j) (wrap64 ((f s).getD 0 + 1))) g (c + 1 + 1) i (wrap64 (j + 1)))) else none) else none) else impl_searched.l0 moves k x f g c (wrap64 (i + 1))
end
def impl_searched.f (moves : Nat → ByteArray → Option (List ByteArray)) (k : Nat) (a0 : ByteArray) : Option (List ByteArray × (ByteArray → Option Int) × (ByteArray → Option Int)) := impl_searched.l0 moves k [a0] (MapS.upd (fun _ => none) a0 0) (MapS.upd (fun _ => none) a0 1) 1 0
theorem impl_searched.mono_l {moves : Nat → ByteArray → Option (List ByteArray)} (hr : ∀ x0 n, LeO (moves n x0) (moves (n + 1) x0)) : ∀ k, (∀ y0 y1 y2 y3 y4, LeO (impl_searched.l0 moves k y0 y1 y2 y3 y4) (impl_searched.l0 moves (k + 1) y0 y1 y2 y3 y4)) ∧ (∀ y0 y1 y2 y3 y4 y5 y6 y7, LeO (impl_searched.l1 moves k y0 y1 y2 y3 y4 y5 y6 y7) (impl_searched.l1 moves (k + 1) y0 y1 y2 y3 y4 y5 y6 y7))
 | 0 => ⟨fun _ _ _ _ _ r h => by simp [impl_searched.l0] at h, fun _ _ _ _ _ _ _ _ r h => by simp [impl_searched.l1] at h⟩
 | k + 1 => by
  obtain ⟨ih0, ih1⟩ := impl_searched.mono_l hr k
  refine ⟨?_, ?_⟩
  ·intro y0 y1 y2 y3 y4
   unfold impl_searched.l0
   repeat' first
   | (with_reducible exact ih1 _ _ _ _ _ _ _ _)
   | (with_reducible exact hr _ _)
   | (with_reducible exact LeO.refl _)
   | (with_reducible exact LeO.none _)
   | (with_reducible refine LeO.ite ?_ ?_)
   | (with_reducible refine LeO.bind ?_ (fun _ => ?_))
   | exact ih1 _ _ _ _ _ _ _ _
   | exact hr _ _
   | exact LeO.none _
   | refine LeO.ite ?_ ?_
   | refine LeO.bind ?_ (fun _ => ?_)
  ·intro y0 y1 y2 y3 y4 y5 y6 y7
   unfold impl_searched.l1
   repeat' first
   | (with_reducible exact ih1 _ _ _ _ _ _ _ _)
   | (with_reducible exact ih0 _ _ _ _ _)
   | (with_reducible exact LeO.refl _)
   | (with_reducible exact LeO.none _)
   | (with_reducible refine LeO.ite ?_ ?_)
   | exact ih1 _ _ _ _ _ _ _ _
   | exact ih0 _ _ _ _ _
   | exact LeO.none _
   | refine LeO.ite ?_ ?_
theorem impl_searched.mono {moves : Nat → ByteArray → Option (List ByteArray)} (hr : ∀ x0 n, LeO (moves n x0) (moves (n + 1) x0)) : ∀ a0 k, LeO (impl_searched.f moves k a0) (impl_searched.f moves (k + 1) a0) := fun _ k => (impl_searched.mono_l hr k).1 _ _ _ _ _
theorem impl_searched.goesV_ {ops : Array Oper} {rest : List Oper} {oi : Oper} {a : Act} {w : World} {Q : Exit → Act → World → Prop} {f : FuncId} {lb : Array Value} {as_ : Array Operand} {ts : Array TypeId} {v : Operand} (N : Option Tmp) (hd : oi.dst = N) (hg : oi.guard = none) (args : Array Value)
  (hop : oi.op = .call { callee := .value v, args := as_, argTypes := ts }) (hv : a.eval v = .func (.func f) #[] lb) (hargs : as_.map a.eval = args) (eg : Go.Proofs.Enters Try.prog f)
  (h : Calls Try.prog f (args ++ lb) w fun e w' => ∃ v, e = .returned v ∧ wpList Try.prog ops Q rest (a.put N v) w') : wpList Try.prog ops Q (oi :: rest) a w := by
 refine wpList_plain hg fun K hK => ?_
 have he := eg (args ++ lb) w
 have hrun : (execOp a.eval oi).run Try.prog w = .ok (.enter f (args ++ lb)) w := by
  unfold execOp
  simp [hop, resolve, Deferred.ofValue, invoke, hv, hargs, he]
 unfold Oper.wp
 rw [hrun, Oper.upon_enter]
 refine h.mono fun e w'' hh => ?_
 obtain ⟨v, rfl, hk⟩ := hh
 subst hd
 exact hK _ _ hk
set_option maxHeartbeats 8000000 in
set_option maxRecDepth 100000 in
theorem impl_searched.calls (gf : Nat) (lb : Array Value) (eg : Go.Proofs.Enters Try.prog gf) (moves : Nat → ByteArray → Option (List ByteArray)) (k : Nat) (a0 : ByteArray) (r : List ByteArray × (ByteArray → Option Int) × (ByteArray → Option Int)) (w : World) (hs : a0.size ≤ maxLen)
  (hp : ∀ (j : Nat) (x : ByteArray) (ts : List ByteArray) (W : World), Below w.heap.size w W → moves j x = some ts → Calls Try.prog gf (#[.string x] ++ lb) W fun e w' => ∃ v, e = .returned v ∧ Kd.R Kd.string 9 w' W.heap.size (fun _ => True) v ts ∧ Below W.heap.size W w')
  (h : impl_searched.f moves k a0 = some r) :
  Calls Try.prog 56 #[.string a0, .func (.func gf) #[] lb] w fun e w' => ∃ gb, e = .returned (.pointer (some ⟨gb, 0, none⟩)) ∧ ∃ b1 b2 v c, impl_searched.St w w' gb b1 b2 (fun _ => True) v r.1 r.2.1 r.2.2 c := by
 have hmm := @run_makeMap Try.prog
 have HP_ := aM hp
 clear hp
 have EG_ := aM eg
 clear eg
 have HS := aM hs
 clear hs
 have H' := aM (show impl_searched.l0 moves k [a0] (MapS.upd (fun _ => none) a0 0) (MapS.upd (fun _ => none) a0 1) 1 0 = some r from h)
 clear h
 go_enter Try.func56, Try.ntmps56
 go_wp2_with (first | ((with_reducible refine gate_dst (N := 13) rfl ?_); refine Kd.R_lit Kd.string _ 9 ?hg (N := 13) ?hd (xs := ([a0] : List ByteArray)) (inner := [.string a0]) (ok := fun _ => True) (okp := fun _ => True) ?hr ?hp (fun _ hk => hk) trivial (Below.refl _ _) (Nat.le_refl _) (by simp) ?_; (case hd => rfl); (case hg => rfl); (case hr => first | (go_simp; done) | (go_simp; rfl)); (case hp => exact (Reps.one (show Kd.M Kd.string _ _ _ a0 [.string a0] from rfl) (Reps.none _ _))); intro v1 w1 ho hb hg_ hnew_; clear hg_ hnew_; obtain ⟨A1, c1, eo⟩ := Kd.R_slice ho; subst eo; have HL := aM ho; have HB := aM hb; clear ho hb) | (refine MapS.upd_ (MapS.M_made _) (by decide) HS.out (c := 0) (by decide) rfl (.tmp 14) _ _ (Or.inr rfl) rfl rfl rfl ?_; intro w2 hM hg2; have HM1 := aM hM; have HG2 := aM hg2; clear hM hg2) | (refine MapS.upd_ (MapS.M_made _) (by decide) HS.out (c := 1) (by decide) rfl (.tmp 17) _ _ (Or.inr rfl) rfl rfl rfl ?_; intro w3 hM hg3; have HM2 := aM hM; have HG3 := aM hg3; clear hM hg3) | ((with_reducible refine gate_dst (N := 21) rfl ?_); refine box_event ?hg (N := 21) ?hd (cs := #[.slice A1 [a0].length c1, .map (some w1.heap.size), .map (some w2.heap.size)]) (t := 69) ?hr ?_; (case hd => rfl); (case hg => rfl); (case hr => first | (go_simp; done) | (go_simp; rfl)); intro gb hg4 w4 hbox hb4; have BK := aM hbox; have HB4 := aM hb4; have HG4 := aM hg4; clear hbox hb4 hg4))
 have S0 : impl_searched.St w w4 gb w1.heap.size w2.heap.size (fun _ => True) (.slice A1 [a0].length c1) [a0] (MapS.upd (fun _ => none) a0 0) (MapS.upd (fun _ => none) a0 1) 1 := by
  have hle : w.heap.size ≤ w1.heap.size := HB.out.size
  have hl1 : w1.heap.size < w2.heap.size := by have := HG2.out.size; simp at this; omega
  have hl2 : w2.heap.size ≤ w3.heap.size := by have := HG3.out.size; simp at this; omega
  have ha := Kd.R_grown2 (Kd.R_alloc HL.out (.map #[] 0)) rfl HG2.out (fun k hk => by cases hk; intro e; exact absurd (Kd.R_lt HL.out _ e.symm) (Nat.lt_irrefl _))
  have hb := Kd.R_grown2 (Kd.R_alloc ha (.map #[] 0)) rfl HG3.out (fun k hk => by cases hk; intro e; exact absurd (Kd.R_lt ha _ e.symm) (Nat.lt_irrefl _))
  have hm := MapS.M_grown (MapS.M_alloc HM1.out (.map #[] 0)) HG3.out (fun e => by have := Option.some.inj e; omega)
  have hB2 : Below w.heap.size w w2 := (below_alloc HB.out (.map #[] 0)).grown HG2.out (by simp; omega) (fun k hk => by cases hk; exact hle)
  have hB3 : Below w.heap.size w w3 := (below_alloc hB2 (.map #[] 0)).grown HG3.out (by simp; omega) (fun k hk => by cases hk; omega)
  exact ⟨Kd.R_below hb HB4.out, BK.out, MapS.M_below hm HB4.out, MapS.M_below HM2.out HB4.out, ⟨by rw [HG4.out]; omega, hle, by omega, by omega⟩, below_step hB3 HB4.out⟩
 have SS := aM S0
 clear S0 HL HB HM1 HM2 HG2 HG3 BK HB4 HG4
 generalize hn1 : w1.heap.size = b1 at SS ⊢
 generalize hn2 : w2.heap.size = b2 at SS ⊢
 clear hn1 hn2
 go_loopg [6] k (fun kq v6 w' => ∃ (v : Value) (x : List ByteArray) (f g : ByteArray → Option Int) (c : Nat) (i : Int), v6 = .int .i64 i ∧ Aside0 (impl_searched.l0 moves kq x f g c i = some r) ∧ Aside0 (kq ≤ k) ∧ Aside0 (impl_searched.St w w' gb b1 b2 (fun _ => True) v x f g c))
 case atStart => exact ⟨_, [a0], _, _, 1, 0, (by first | rfl | (simp; done) | (simp [*]; done)), H', ⟨Nat.le_refl _⟩, SS⟩
 case round =>
  clear H' SS
  obtain ⟨v, x, f, g, c, i, rfl, HA, HK1, SS⟩ := hrel
  cases gk with
  | zero => exact absurd HA.out (by simp [impl_searched.l0])
  | succ k1 =>
   have H := HA.out
   clear HA
   simp only [impl_searched.l0] at H
   obtain ⟨A2, c2, eo⟩ := Kd.R_slice SS.out.lst
   subst eo
   have hz0 : wr.cell? ⟨gb, 0, none⟩ = some (.slice A2 x.length c2) := (blk_cell SS.out.blk 0).trans rfl
   by_cases c5 : i < (x.length : Int)
   ·rw [if_pos c5] at H
    have c5b0 : decide (i < (x.length : Int)) = true := decide_eq_true c5
    clear c5
    by_cases c6 : 0 ≤ i
    ·rw [if_pos c6] at H
     have c6b0 : decide (0 ≤ i) = true := decide_eq_true c6
     clear c6
     obtain ⟨ts, A70, H⟩ := Option.bind_eq_some_iff.mp H
     have A7 := aM A70
     have H' := aM H
     clear A70 H
     have p1 : 0 ≤ (i : Int) := of_decide_eq_true (by assumption)
     have q1 : i < (x.length : Int) := of_decide_eq_true (by assumption)
     obtain ⟨ad1, e1, hx1⟩ := Kd.at_string (Kd.R_reads' SS.out.lst).2.2 i p1 q1
     cases e1
     replace p1 := eq_true p1
     replace q1 := eq_true q1
     generalize hs1 : rdOf ByteArray.empty x i = s1 at hx1 A7 H'
     clear hs1
     go_wp2_with (first | ((with_reducible refine gate_dst (N := 40) rfl ?_); refine impl_searched.goesV_ (f := gf) (lb := lb) (some 40) rfl rfl #[.string s1] rfl rfl (by (try simp only [List.map_toArray, List.map_cons, List.map_nil]); first | done | rfl) EG_.out ?_; (with_reducible refine (HP_.out k1 s1 ts _ SS.out.bel A7.out).mono ?_); rintro e w8 ⟨vt, rfl, ho, hb⟩; refine ⟨_, rfl, ?_⟩; obtain ⟨A3, c3, eo⟩ := Kd.R_slice ho; subst eo; have ST := aM (Kd.R_lower (Kd.R_new' ho (Kd.R_lt SS.out.lst)) SS.out.bel.size); have n0 := aM (show impl_searched.St w w8 gb b1 b2 (fun k => True ∧ some k ≠ (.slice A3 ts.length c3 : Value).ownBlock) (.slice (some ad1) x.length c2) x f g c from ⟨Kd.R_elder' SS.out.lst (Kd.R_base ho) hb, (SS.out.below hb).blk, (SS.out.below hb).far, (SS.out.below hb).way, SS.out.ge, (SS.out.below hb).bel⟩); clear SS; have SS := n0; clear n0 ho hb))
     clear hx1 hz0 p1 q1
     go_loopg [42] k1 (fun kq v42 w' => ∃ (v : Value) (x : List ByteArray) (f g : ByteArray → Option Int) (c : Nat) (j : Int), v42 = .int .i64 j ∧ Aside0 (impl_searched.l1 moves kq s1 ts x f g c i j = some r) ∧ Aside0 (kq ≤ k1) ∧ Aside0 (Kd.R Kd.string 9 w' w.heap.size (fun k => True ∧ some k ≠ v.ownBlock) (.slice A3 ts.length c3) ts) ∧ Aside0 (impl_searched.St w w' gb b1 b2 (fun k => True ∧ some k ≠ (.slice A3 ts.length c3 : Value).ownBlock) v x f g c))
     case atStart => exact ⟨_, x, f, g, c, 0, (by first | rfl | (simp; done) | (simp [*]; done)), H', ⟨Nat.le_refl _⟩, ST, SS⟩
     case round =>
      clear H' ST SS c5b0 c6b0 A7
      obtain ⟨v, x, f, g, c, j, rfl, HA, HK2, ST, SS⟩ := hrel
      cases gk with
      | zero => exact absurd HA.out (by simp [impl_searched.l1])
      | succ k2 =>
       have H := HA.out
       clear HA
       simp only [impl_searched.l1] at H
       by_cases c7 : j < (ts.length : Int)
       ·rw [if_pos c7] at H
        have c7b0 : decide (j < (ts.length : Int)) = true := decide_eq_true c7
        clear c7
        by_cases c8 : 0 ≤ j
        ·rw [if_pos c8] at H
         have c8b0 : decide (0 ≤ j) = true := decide_eq_true c8
         clear c8
         obtain ⟨A4, c4, eo⟩ := Kd.R_slice SS.out.lst
         subst eo
         have p2 : 0 ≤ (j : Int) := of_decide_eq_true (by assumption)
         have q2 : j < (ts.length : Int) := of_decide_eq_true (by assumption)
         obtain ⟨ad2, e2, hx2⟩ := Kd.at_string (Kd.R_reads' ST.out).2.2 j p2 q2
         cases e2
         replace p2 := eq_true p2
         replace q2 := eq_true q2
         generalize hs2 : rdOf ByteArray.empty ts j = t at hx2 H
         clear hs2
         by_cases c9 : s1.size ≤ maxLen ∧ t.size ≤ maxLen ∧ c < 4398046511104 ∧ x.length < 4398046511104
         ·rw [if_pos c9] at H
          have G9 := aM c9
          clear c9
          have hz0 : wr.cell? ⟨gb, 0, none⟩ = some (.slice A4 x.length c4) := (blk_cell SS.out.blk 0).trans rfl
          have hz1 : wr.cell? ⟨gb, 1, none⟩ = some (.map (some b1)) := (blk_cell SS.out.blk 1).trans rfl
          have hz2 : wr.cell? ⟨gb, 2, none⟩ = some (.map (some b2)) := (blk_cell SS.out.blk 2).trans rfl
          have hzf := blk_frozen SS.out.blk 0
          obtain ⟨n1, hn1⟩ : ∃ n, (f s1).getD 0 = n := ⟨_, rfl⟩
          obtain ⟨n2, hn2⟩ : ∃ n, (f t).getD 0 = n := ⟨_, rfl⟩
          have N1 := aM hn1
          have N2 := aM hn2
          by_cases c10 : (f t).isSome = true
          ·rw [if_pos c10, hn1, hn2] at H
           have F10 := aM c10
           clear c10 hn1 hn2
           by_cases c11 : n2 = wrap64 (n1 + 1)
           ·rw [if_pos c11] at H
            have c11b0 : (n2 == wrap64 (n1 + 1)) = true := beq_iff_eq.mpr c11
            clear c11
            obtain ⟨n3, hn3⟩ : ∃ n, (g t).getD 0 = n := ⟨_, rfl⟩
            obtain ⟨n4, hn4⟩ : ∃ n, (g s1).getD 0 = n := ⟨_, rfl⟩
            rw [hn3, hn4] at H
            have H' := aM H
            clear H
            go_wp2_with (first | (at_lookup; refine MapS.look2_v SS.out.far N2.out F10.out G9.out.2.1 rfl _ _ rfl rfl rfl ?_) | (at_lookup; refine MapS.look_v SS.out.far N1.out G9.out.1 rfl _ _ rfl rfl rfl ?_))
            have hl3 := MapS.M_look (MapS.M_drew SS.out.way) t G9.out.2.1
            have hl4 := MapS.M_look (MapS.M_drew SS.out.way) s1 G9.out.1
            rw [hn3] at hl3
            rw [hn4] at hl4
            clear hn3 hn4
            obtain ⟨w9, hput, hM, hg9⟩ := MapS.M_put (MapS.M_drew SS.out.way) (Nat.lt_of_lt_of_le G9.out.2.2.1 (by decide)) t G9.out.2.1 (impl_searched.cap (wrap64 (n3 + n4))) (impl_searched.cap_wf (wrap64_wf _))
            simp only [impl_searched.cap] at hput
            have SD := SS.out.below (Below.refl _ _).drew
            have n0 := aM (SD.put2 hM hg9)
            have n9 := aM (Kd.R_grown2 (Kd.R_drew ST.out) rfl hg9 (fun k hk => by cases hk; intro e; obtain ⟨cells, hc⟩ := Kd.R_typed ST.out _ e.symm; exact MapS.M_apart SS.out.way hc rfl))
            clear hM hg9 SD
            go_region
            all_goals go_wp2
            all_goals (go_roundg k2; (case measure => have := HK1.out; have := HK2.out; omega); (case rel => exact ⟨_, _, _, _, _, (wrap64 (j + 1)), (by first | rfl | (simp; done) | (simp [*]; done)), H', ⟨by have := HK1.out; have := HK2.out; omega⟩, n9, n0⟩))
           ·rw [if_neg c11] at H
            have c11b0 : (n2 == wrap64 (n1 + 1)) = false := beq_eq_false_iff_ne.mpr c11
            clear c11
            have H' := aM H
            clear H
            go_wp2_with (first | (at_lookup; refine MapS.look2_v SS.out.far N2.out F10.out G9.out.2.1 rfl _ _ rfl rfl rfl ?_) | (at_lookup; refine MapS.look_v SS.out.far N1.out G9.out.1 rfl _ _ rfl rfl rfl ?_))
            go_roundg k2
            case measure => have := HK1.out; have := HK2.out; omega
            case rel => exact ⟨_, x, f, g, c + 1, (wrap64 (j + 1)), (by first | rfl | (simp; done) | (simp [*]; done)), H', ⟨by have := HK1.out; have := HK2.out; omega⟩, ST, ⟨SS.out.more⟩⟩
          ·rw [if_neg c10, hn1] at H
           have F10 := aM (Bool.eq_false_iff.mpr c10)
           clear c10 hn1 hn2
           obtain ⟨n5, hn5⟩ : ∃ n, (MapS.upd f t (wrap64 (n1 + 1)) s1).getD 0 = n := ⟨_, rfl⟩
           rw [hn5] at H
           have N5 := aM hn5
           clear hn5
           obtain ⟨y, hy⟩ : ∃ y : List ByteArray, y = x ++ [t] := ⟨_, rfl⟩
           rw [← hy] at H
           have NY := aM hy
           clear hy
           by_cases c11 : wrap64 (n1 + 1) = wrap64 (n5 + 1)
           ·rw [if_pos c11] at H
            have c11b0 : (wrap64 (n1 + 1) == wrap64 (n5 + 1)) = true := beq_iff_eq.mpr c11
            clear c11
            obtain ⟨n3, hn3⟩ : ∃ n, (g t).getD 0 = n := ⟨_, rfl⟩
            obtain ⟨n4, hn4⟩ : ∃ n, (g s1).getD 0 = n := ⟨_, rfl⟩
            rw [hn3, hn4] at H
            have H' := aM H
            clear H
            go_wp2_with (first | (at_lookup; refine MapS.look2_v SS.out.far N2.out F10.out G9.out.2.1 rfl _ _ rfl rfl rfl ?_) | (at_lookup; refine MapS.look_v SS.out.far N1.out G9.out.1 rfl _ _ rfl rfl rfl ?_) | (at_lookup; refine MapS.look_v SS.out.far N5.out G9.out.1 rfl _ _ rfl rfl rfl ?_) | (at_mapUpdate; refine MapS.upd_ SS.out.far (Nat.lt_of_lt_of_le G9.out.2.2.1 (by decide)) G9.out.2.1 (c := wrap64 (n1 + 1)) (wrap64_wf _) rfl (.tmp 67) _ _ (Or.inl rfl) rfl rfl rfl ?_; intro w5 hM hg5; have m0 := aM (SS.out.put1 hM hg5); have m1 := aM (Kd.R_grown2 ST.out rfl hg5 (fun k hk => by cases hk; intro e; obtain ⟨cells, hc⟩ := Kd.R_typed ST.out _ e.symm; exact MapS.M_apart SS.out.far hc rfl)); clear SS ST hz0 hz1 hz2 hzf hM hg5; have SS := m0; have ST := m1; clear m0 m1; have hz0 : w5.cell? ⟨gb, 0, none⟩ = some (.slice A4 x.length c4) := (blk_cell SS.out.blk 0).trans rfl) | ((with_reducible refine gate_builtin (b := .append) (xs := #[.tmp 74, .tmp 76]) rfl ?_); at_builtin; refine Kd.R_append Kd.string (w0 := w) w.heap.size rfl (.tmp 74) (.tmp 76) 47 9 (.string ⟨#[]⟩) 16 rfl Try.underlying47 info9 rfl (by decide) (by omega) (.slice A4 x.length c4) x t [.string t] (fun k => True ∧ some k ≠ (.slice (some ad2) ts.length c3 : Value).ownBlock) (fun _ => False) rfl rfl ?aP (fun _ hk => hk.elim) ?aF ?aO ?aB ?aS ?aL ?_; (case aP => exact rfl); (case aB => exact SS.out.bel); (case aF => exact fun k hk => ⟨trivial, fun e => absurd (Kd.R_lt ST.out k e.symm) (Nat.not_lt.2 hk)⟩); (case aO => exact SS.out.lst); (case aS => exact SS.out.bel.size); (case aL => have := G9.out.2.2.2; omega); intro v6 w6 ho hb hg hat; rw [← NY.out] at ho; obtain ⟨A6, c6, eo⟩ := Kd.R_slice ho; subst eo; have HO6 := aM ho; have HB6 := aM hb; have HG6 := aM hg; have ST6 := aM (Kd.R_after ST.out hg hat); have BK6 := aM (blk_grown SS.out.blk hg (Kd.R_ne SS.out.lst SS.out.blk (by decide))); clear ho hb hg hat ST hz0; have hz0 : w6.cell? ⟨gb, 0, none⟩ = some (.slice A4 x.length c4) := (blk_cell BK6.out 0).trans rfl; have hzf := blk_frozen BK6.out 0) | ((with_reducible refine gate_store (t := 47) (p := 79) rfl ?_); refine store_event (t := 47) (p := 79) (v := ?vo) (w1 := (w6.setCell ⟨gb, 0, none⟩ (.slice A6 y.length c6))) ?hg ?ho ?hn ?hr ?_; (case ho => rfl); (case hg => rfl); (case hn => rfl); (case hr => first | (go_simp; done) | (go_simp; rfl)); intro w7 hw; have m0 := SS.out.push HO6.out HB6.out HG6.out; rw [← hw] at m0; have m0 := aM m0; have m1 := Kd.R_grown2 ST6.out rfl (impl_searched.grown_set w6 gb 0 (.slice A6 y.length c6)) (fun k hk => by cases hk; exact Kd.R_ne ST6.out BK6.out (by decide)); rw [← hw] at m1; have m1 := aM m1; clear SS ST6 HO6 HB6 HG6 BK6 hz0 hzf hw; have SS := m0; have ST := m1; clear m0 m1; have hz1 : w7.cell? ⟨gb, 1, none⟩ = some (.map (some b1)) := (blk_cell SS.out.blk 1).trans rfl; have hz2 : w7.cell? ⟨gb, 2, none⟩ = some (.map (some b2)) := (blk_cell SS.out.blk 2).trans rfl))
            have hl3 := MapS.M_look (MapS.M_drew SS.out.way) t G9.out.2.1
            have hl4 := MapS.M_look (MapS.M_drew SS.out.way) s1 G9.out.1
            rw [hn3] at hl3
            rw [hn4] at hl4
            clear hn3 hn4
            obtain ⟨w9, hput, hM, hg9⟩ := MapS.M_put (MapS.M_drew SS.out.way) (Nat.lt_of_lt_of_le (Nat.succ_lt_succ G9.out.2.2.1) (by decide)) t G9.out.2.1 (impl_searched.cap (wrap64 (n3 + n4))) (impl_searched.cap_wf (wrap64_wf _))
            simp only [impl_searched.cap] at hput
            have SD := SS.out.below (Below.refl _ _).drew
            have n0 := aM (SD.put2 hM hg9)
            have n9 := aM (Kd.R_grown2 (Kd.R_drew ST.out) rfl hg9 (fun k hk => by cases hk; intro e; obtain ⟨cells, hc⟩ := Kd.R_typed ST.out _ e.symm; exact MapS.M_apart SS.out.way hc rfl))
            clear hM hg9 SD
            go_region
            all_goals go_wp2
            all_goals (go_roundg k2; (case measure => have := HK1.out; have := HK2.out; omega); (case rel => exact ⟨_, _, _, _, _, (wrap64 (j + 1)), (by first | rfl | (simp; done) | (simp [*]; done)), H', ⟨by have := HK1.out; have := HK2.out; omega⟩, n9, n0⟩))
           ·rw [if_neg c11] at H
            have c11b0 : (wrap64 (n1 + 1) == wrap64 (n5 + 1)) = false := beq_eq_false_iff_ne.mpr c11
            clear c11
            have H' := aM H
            clear H
            go_wp2_with (first | (at_lookup; refine MapS.look2_v SS.out.far N2.out F10.out G9.out.2.1 rfl _ _ rfl rfl rfl ?_) | (at_lookup; refine MapS.look_v SS.out.far N1.out G9.out.1 rfl _ _ rfl rfl rfl ?_) | (at_lookup; refine MapS.look_v SS.out.far N5.out G9.out.1 rfl _ _ rfl rfl rfl ?_) | (at_mapUpdate; refine MapS.upd_ SS.out.far (Nat.lt_of_lt_of_le G9.out.2.2.1 (by decide)) G9.out.2.1 (c := wrap64 (n1 + 1)) (wrap64_wf _) rfl (.tmp 67) _ _ (Or.inl rfl) rfl rfl rfl ?_; intro w5 hM hg5; have m0 := aM (SS.out.put1 hM hg5); have m1 := aM (Kd.R_grown2 ST.out rfl hg5 (fun k hk => by cases hk; intro e; obtain ⟨cells, hc⟩ := Kd.R_typed ST.out _ e.symm; exact MapS.M_apart SS.out.far hc rfl)); clear SS ST hz0 hz1 hz2 hzf hM hg5; have SS := m0; have ST := m1; clear m0 m1; have hz0 : w5.cell? ⟨gb, 0, none⟩ = some (.slice A4 x.length c4) := (blk_cell SS.out.blk 0).trans rfl) | ((with_reducible refine gate_builtin (b := .append) (xs := #[.tmp 74, .tmp 76]) rfl ?_); at_builtin; refine Kd.R_append Kd.string (w0 := w) w.heap.size rfl (.tmp 74) (.tmp 76) 47 9 (.string ⟨#[]⟩) 16 rfl Try.underlying47 info9 rfl (by decide) (by omega) (.slice A4 x.length c4) x t [.string t] (fun k => True ∧ some k ≠ (.slice (some ad2) ts.length c3 : Value).ownBlock) (fun _ => False) rfl rfl ?aP (fun _ hk => hk.elim) ?aF ?aO ?aB ?aS ?aL ?_; (case aP => exact rfl); (case aB => exact SS.out.bel); (case aF => exact fun k hk => ⟨trivial, fun e => absurd (Kd.R_lt ST.out k e.symm) (Nat.not_lt.2 hk)⟩); (case aO => exact SS.out.lst); (case aS => exact SS.out.bel.size); (case aL => have := G9.out.2.2.2; omega); intro v6 w6 ho hb hg hat; rw [← NY.out] at ho; obtain ⟨A6, c6, eo⟩ := Kd.R_slice ho; subst eo; have HO6 := aM ho; have HB6 := aM hb; have HG6 := aM hg; have ST6 := aM (Kd.R_after ST.out hg hat); have BK6 := aM (blk_grown SS.out.blk hg (Kd.R_ne SS.out.lst SS.out.blk (by decide))); clear ho hb hg hat ST hz0; have hz0 : w6.cell? ⟨gb, 0, none⟩ = some (.slice A4 x.length c4) := (blk_cell BK6.out 0).trans rfl; have hzf := blk_frozen BK6.out 0) | ((with_reducible refine gate_store (t := 47) (p := 79) rfl ?_); refine store_event (t := 47) (p := 79) (v := ?vo) (w1 := (w6.setCell ⟨gb, 0, none⟩ (.slice A6 y.length c6))) ?hg ?ho ?hn ?hr ?_; (case ho => rfl); (case hg => rfl); (case hn => rfl); (case hr => first | (go_simp; done) | (go_simp; rfl)); intro w7 hw; have m0 := SS.out.push HO6.out HB6.out HG6.out; rw [← hw] at m0; have m0 := aM m0; have m1 := Kd.R_grown2 ST6.out rfl (impl_searched.grown_set w6 gb 0 (.slice A6 y.length c6)) (fun k hk => by cases hk; exact Kd.R_ne ST6.out BK6.out (by decide)); rw [← hw] at m1; have m1 := aM m1; clear SS ST6 HO6 HB6 HG6 BK6 hz0 hzf hw; have SS := m0; have ST := m1; clear m0 m1; have hz1 : w7.cell? ⟨gb, 1, none⟩ = some (.map (some b1)) := (blk_cell SS.out.blk 1).trans rfl; have hz2 : w7.cell? ⟨gb, 2, none⟩ = some (.map (some b2)) := (blk_cell SS.out.blk 2).trans rfl))
            go_roundg k2
            case measure => have := HK1.out; have := HK2.out; omega
            case rel => exact ⟨_, _, _, _, _, (wrap64 (j + 1)), (by first | rfl | (simp; done) | (simp [*]; done)), H', ⟨by have := HK1.out; have := HK2.out; omega⟩, ST, ⟨SS.out.more⟩⟩
         ·rw [if_neg c9] at H
          exact absurd H (by simp)
        ·rw [if_neg c8] at H
         exact absurd H (by simp)
       ·rw [if_neg c7] at H
        have c7b0 : decide (j < (ts.length : Int)) = false := decide_eq_false c7
        clear c7
        have H' := aM H
        clear H
        go_wp2
        go_roundg k2
        case measure => have := HK1.out; have := HK2.out; omega
        case rel => exact ⟨v, x, f, g, c, (wrap64 (i + 1)), (by first | rfl | (simp; done) | (simp [*]; done)), H', ⟨by have := HK1.out; have := HK2.out; omega⟩, ⟨⟨Kd.R_mono SS.out.lst (fun _ _ => trivial), SS.out.blk, SS.out.far, SS.out.way, SS.out.ge, SS.out.bel⟩⟩⟩
    ·rw [if_neg c6] at H
     exact absurd H (by simp)
   ·rw [if_neg c5] at H
    have c5b0 : decide (i < (x.length : Int)) = false := decide_eq_false c5
    clear c5
    obtain rfl := Option.some.inj H
    go_wp2
    go_ret
    exact ⟨gb, rfl, b1, b2, _, c, SS.out⟩

/-! ### impl_partsOf: function 26 (told by hand) -/
mutual
def impl_partsOf.l0 (srch : Nat → ByteArray → Option (List ByteArray)) (ss : List ByteArray) : Nat → (ByteArray → Bool) → Nat → Int → Int → Option Int
 | 0, _, _, _, _ => none
 | k + 1, f, c, n, i => if i < (ss.length : Int) then (if 0 ≤ i then (if (rdOf ByteArray.empty ss i).size ≤ maxLen then
   (if f (rdOf ByteArray.empty ss i) = true then impl_partsOf.l0 srch ss k f c n (wrap64 (i + 1))
    else (srch k (rdOf ByteArray.empty ss i)).bind fun ts => impl_partsOf.l1 srch ss k ts f c (wrap64 (n + 1)) i 0) else none) else none) else some n
def impl_partsOf.l1 (srch : Nat → ByteArray → Option (List ByteArray)) (ss : List ByteArray) : Nat → List ByteArray → (ByteArray → Bool) → Nat → Int → Int → Int → Option Int
 | 0, _, _, _, _, _, _ => none
 | k + 1, ts, f, c, n, i, j => if j < (ts.length : Int) then (if 0 ≤ j then (if (rdOf ByteArray.empty ts j).size ≤ maxLen ∧ c < 4398046511104 then
   impl_partsOf.l1 srch ss k ts (MapB.upd f (rdOf ByteArray.empty ts j)) (c + 1) n i (wrap64 (j + 1)) else none) else none) else impl_partsOf.l0 srch ss k f c n (wrap64 (i + 1))
end
def impl_partsOf.f (srch : Nat → ByteArray → Option (List ByteArray)) (k : Nat) (a0 : List ByteArray) : Option Int := impl_partsOf.l0 srch a0 k (fun _ => false) 0 0 0
theorem impl_partsOf.mono_l {srch : Nat → ByteArray → Option (List ByteArray)} (hr : ∀ x0 n, LeO (srch n x0) (srch (n + 1) x0)) (ss : List ByteArray) : ∀ k, (∀ y0 y1 y2 y3, LeO (impl_partsOf.l0 srch ss k y0 y1 y2 y3) (impl_partsOf.l0 srch ss (k + 1) y0 y1 y2 y3)) ∧ (∀ y0 y1 y2 y3 y4 y5, LeO (impl_partsOf.l1 srch ss k y0 y1 y2 y3 y4 y5) (impl_partsOf.l1 srch ss (k + 1) y0 y1 y2 y3 y4 y5))
 | 0 => ⟨fun _ _ _ _ r h => by simp [impl_partsOf.l0] at h, fun _ _ _ _ _ _ r h => by simp [impl_partsOf.l1] at h⟩
 | k + 1 => by
  obtain ⟨ih0, ih1⟩ := impl_partsOf.mono_l hr ss k
  refine ⟨?_, ?_⟩
  ·intro y0 y1 y2 y3
   unfold impl_partsOf.l0
   exact LeO.ite (LeO.ite (LeO.ite (LeO.ite (ih0 _ _ _ _) (LeO.bind (hr _ _) (fun _ => ih1 _ _ _ _ _ _))) (LeO.none _)) (LeO.none _)) (LeO.refl _)
  ·intro y0 y1 y2 y3 y4 y5
   unfold impl_partsOf.l1
   exact LeO.ite (LeO.ite (LeO.ite (ih1 _ _ _ _ _ _) (LeO.none _)) (LeO.none _)) (ih0 _ _ _ _)
theorem impl_partsOf.mono {srch : Nat → ByteArray → Option (List ByteArray)} (hr : ∀ x0 n, LeO (srch n x0) (srch (n + 1) x0)) : ∀ a0 k, LeO (impl_partsOf.f srch k a0) (impl_partsOf.f srch (k + 1) a0) := fun a0 k => (impl_partsOf.mono_l hr a0 k).1 _ _ _ _
theorem impl_partsOf.goesV_ {ops : Array Oper} {rest : List Oper} {oi : Oper} {a : Act} {w : World} {Q : Exit → Act → World → Prop} {f : FuncId} {fa lb : Array Value} {as_ : Array Operand} {ts : Array TypeId} {v : Operand} (N : Option Tmp) (hd : oi.dst = N) (hg : oi.guard = none) (args : Array Value)
  (hop : oi.op = .call { callee := .value v, args := as_, argTypes := ts }) (hv : a.eval v = .func (.func f) fa lb) (hargs : as_.map a.eval = args) (eg : Go.Proofs.Enters Try.prog f)
  (h : Calls Try.prog f (fa ++ args ++ lb) w fun e w' => ∃ v, e = .returned v ∧ wpList Try.prog ops Q rest (a.put N v) w') : wpList Try.prog ops Q (oi :: rest) a w := by
 refine wpList_plain hg fun K hK => ?_
 have he := eg (fa ++ args ++ lb) w
 rw [Array.append_assoc] at he
 have hrun : (execOp a.eval oi).run Try.prog w = .ok (.enter f (fa ++ args ++ lb)) w := by
  unfold execOp
  simp [hop, resolve, Deferred.ofValue, invoke, hv, hargs, he]
 unfold Oper.wp
 rw [hrun, Oper.upon_enter]
 refine h.mono fun e w'' hh => ?_
 obtain ⟨v, rfl, hk⟩ := hh
 subst hd
 exact hK _ _ hk
set_option maxHeartbeats 8000000 in
set_option maxRecDepth 100000 in
theorem impl_partsOf.calls (gf : Nat) (fa lb : Array Value) (eg : Go.Proofs.Enters Try.prog gf) (srch : Nat → ByteArray → Option (List ByteArray)) (k : Nat) (A0 : Option Addr) (c0 : Nat) (l0 : List ByteArray) (r : Int) (w : World) (hr0 : Kd.C Kd.string w A0 l0.length l0) (hc0 : l0.length ≤ c0)
  (hp : ∀ (j : Nat) (x : ByteArray) (ts : List ByteArray) (W : World), Below w.heap.size w W → x.size ≤ maxLen → srch j x = some ts → Calls Try.prog gf (fa ++ #[.string x] ++ lb) W fun e w' => ∃ gb, e = .returned (.pointer (some ⟨gb, 0, none⟩)) ∧ ∃ b1 b2 v f g c, impl_searched.St W w' gb b1 b2 (fun _ => True) v ts f g c)
  (h : impl_partsOf.f srch k l0 = some r) :
  Calls Try.prog 26 #[.slice A0 l0.length c0, .func (.func gf) fa lb] w fun e w' => e = .returned (.int .i64 r) ∧ Below w.heap.size w w' := by
 have hmm := @run_makeMap Try.prog
 have HP_ := aM hp
 clear hp
 have EG_ := aM eg
 clear eg
 have HR0 := aM hr0
 have HC0 := aM hc0
 clear hr0 hc0
 have H' := aM (show impl_partsOf.l0 srch l0 k (fun _ => false) 0 0 0 = some r from h)
 clear h
 have HM := aM (MapB.M_made w)
 have HB := aM (below_alloc (Below.refl w.heap.size w) (.map #[] 0))
 go_enter Try.func26, Try.ntmps26
 go_wp2
 generalize hwb : w.alloc (.map #[] 0) = w1 at HM HB ⊢
 clear hwb
 obtain ⟨b, hb⟩ : ∃ b, w.heap.size = b := ⟨_, rfl⟩
 have hvb : Value.map (some w.heap.size) = .map (some b) := by rw [hb]
 rw [hvb]
 have HBK := aM (Nat.le_of_eq hb)
 have HM1 := aM (hb ▸ HM.out)
 clear HM hb hvb
 have HM := HM1
 clear HM1
 go_loopg [6, 14] k (fun kq v6 v14 w' => ∃ (f : ByteArray → Bool) (c : Nat) (n i : Int), v6 = .int .i64 n ∧ v14 = .int .i64 i ∧ Aside0 (impl_partsOf.l0 srch l0 kq f c n i = some r) ∧ Aside0 (kq ≤ k) ∧ Aside0 (MapB.M w' b c f) ∧ Aside0 (Below w.heap.size w w'))
 case atStart => exact ⟨_, 0, 0, 0, rfl, rfl, H', ⟨Nat.le_refl _⟩, HM, HB⟩
 case round =>
  clear H' HM HB
  obtain ⟨f, c, n, i, rfl, rfl, HA, HK1, HM, HB⟩ := hrel
  cases gk with
  | zero => exact absurd HA.out (by simp [impl_partsOf.l0])
  | succ k1 =>
   have H := HA.out
   clear HA
   simp only [impl_partsOf.l0] at H
   by_cases c5 : i < (l0.length : Int)
   ·rw [if_pos c5] at H
    have c5b0 : decide (i < (l0.length : Int)) = true := decide_eq_true c5
    by_cases c6 : 0 ≤ i
    ·rw [if_pos c6] at H
     have c6b0 : decide (0 ≤ i) = true := decide_eq_true c6
     obtain ⟨ad1, e1, hx1⟩ := Kd.at_string (Kd.C_below HR0.out HB.out) i c6 c5
     have q1 := eq_true c5
     have q2 := eq_true c6
     clear c5 c6
     cases e1
     generalize hs1 : rdOf ByteArray.empty l0 i = s1 at hx1 H
     clear hs1
     by_cases c7 : s1.size ≤ maxLen
     ·rw [if_pos c7] at H
      have S1 := aM (show s1.size ≤ maxLen ∧ True from ⟨c7, trivial⟩)
      clear c7
      by_cases c8 : f s1 = true
      ·rw [if_pos c8] at H
       have F8 := aM c8
       clear c8
       have H' := aM H
       clear H
       go_wp2_with (at_lookup; refine MapB.look_v HM.out F8.out S1.out.1 rfl _ _ rfl rfl rfl ?_)
       go_roundg k1
       case measure => have := HK1.out; omega
       case rel => exact ⟨f, c, n, wrap64 (i + 1), rfl, rfl, H', ⟨by have := HK1.out; omega⟩, HM, HB⟩
      ·rw [if_neg c8] at H
       have F8 := aM (Bool.eq_false_iff.mpr c8)
       clear c8
       obtain ⟨ts, A70, H⟩ := Option.bind_eq_some_iff.mp H
       have A7 := aM A70
       have H' := aM H
       clear A70 H
       go_wp2_with (first | (at_lookup; refine MapB.look_v HM.out F8.out S1.out.1 rfl _ _ rfl rfl rfl ?_) | ((with_reducible refine gate_dst (N := 25) rfl ?_); refine impl_partsOf.goesV_ (f := gf) (fa := fa) (lb := lb) (some 25) rfl rfl #[.string s1] rfl rfl (by (try simp only [List.map_toArray, List.map_cons, List.map_nil]); first | done | rfl) EG_.out ?_; (with_reducible refine (HP_.out k1 s1 ts _ HB.out S1.out.1 A7.out).mono ?_); rintro e w8 ⟨gb, rfl, b1, b2, vt, f2, g2, c2, hS⟩; refine ⟨_, rfl, ?_⟩; obtain ⟨A3, c3, eo⟩ := Kd.R_slice hS.lst; subst eo; have ST := aM (Kd.R_lower hS.lst HB.out.size); have HM8 := aM (MapB.M_below HM.out hS.bel); have HB8 := aM (below_step HB.out hS.bel); have hz0 : w8.cell? ⟨gb, 0, none⟩ = some (.slice A3 ts.length c3) := (blk_cell hS.blk 0).trans rfl; clear HM HB hS; have HM := HM8; have HB := HB8; clear HM8 HB8))
       clear hx1 q1 q2
       try clear hz0
       go_loopg [30] k1 (fun kq v30 w' => ∃ (f : ByteArray → Bool) (c : Nat) (j : Int), v30 = .int .i64 j ∧ Aside0 (impl_partsOf.l1 srch l0 kq ts f c (wrap64 (n + 1)) i j = some r) ∧ Aside0 (kq ≤ k1) ∧ Aside0 (Kd.R Kd.string 9 w' w.heap.size (fun _ => True) (.slice A3 ts.length c3) ts) ∧ Aside0 (MapB.M w' b c f) ∧ Aside0 (Below w.heap.size w w'))
       case atStart => exact ⟨f, c, 0, rfl, H', ⟨Nat.le_refl _⟩, ST, HM, HB⟩
       case round =>
        clear H' ST HM HB c5b0 c6b0 A7 F8
        obtain ⟨f, c, j, rfl, HA, HK2, ST, HM, HB⟩ := hrel
        cases gk with
        | zero => exact absurd HA.out (by simp [impl_partsOf.l1])
        | succ k2 =>
         have H := HA.out
         clear HA
         simp only [impl_partsOf.l1] at H
         by_cases c7 : j < (ts.length : Int)
         ·rw [if_pos c7] at H
          have c7b0 : decide (j < (ts.length : Int)) = true := decide_eq_true c7
          by_cases c8 : 0 ≤ j
          ·rw [if_pos c8] at H
           have c8b0 : decide (0 ≤ j) = true := decide_eq_true c8
           obtain ⟨ad2, e2, hx2⟩ := Kd.at_string (Kd.R_reads' ST.out).2.2 j c8 c7
           cases e2
           have q3 := eq_true c7
           have q4 := eq_true c8
           clear c7 c8
           generalize hs2 : rdOf ByteArray.empty ts j = t at hx2 H
           clear hs2
           by_cases c9 : t.size ≤ maxLen ∧ c < 4398046511104
           ·rw [if_pos c9] at H
            have G9 := aM c9
            clear c9
            have H' := aM H
            clear H
            go_wp2_with (at_mapUpdate; refine MapB.upd_ HM.out (Nat.lt_of_lt_of_le G9.out.2 (by decide)) G9.out.1 rfl (.tmp 34) _ _ rfl rfl rfl rfl ?_; intro w5 hM hg5; have m0 := aM hM; have m1 := aM (Kd.R_grown2 ST.out rfl hg5 (fun k hk => by cases hk; intro e; obtain ⟨cells, hc⟩ := Kd.R_typed ST.out _ e.symm; exact MapB.M_apart HM.out hc rfl)); have m2 := aM (HB.out.grown hg5 HB.out.size (fun k hk => by cases hk; exact HBK.out)); clear HM ST HB hM hg5; have HM := m0; have ST := m1; have HB := m2; clear m0 m1 m2)
            go_roundg k2
            case measure => have := HK1.out; have := HK2.out; omega
            case rel => exact ⟨_, c + 1, wrap64 (j + 1), rfl, H', ⟨by have := HK1.out; have := HK2.out; omega⟩, ST, HM, HB⟩
           ·rw [if_neg c9] at H
            cases H
          ·rw [if_neg c8] at H
           cases H
         ·rw [if_neg c7] at H
          have c7b0 : decide (j < (ts.length : Int)) = false := decide_eq_false c7
          clear c7
          have H' := aM H
          clear H
          go_wp2
          go_roundg k2
          case measure => have := HK1.out; have := HK2.out; omega
          case rel => exact ⟨f, c, _, wrap64 (i + 1), rfl, rfl, H', ⟨by have := HK1.out; have := HK2.out; omega⟩, HM, HB⟩
     ·rw [if_neg c7] at H
      cases H
    ·rw [if_neg c6] at H
     cases H
   ·rw [if_neg c5] at H
    have c5b0 : decide (i < (l0.length : Int)) = false := decide_eq_false c5
    clear c5
    obtain rfl := Option.some.inj H
    go_wp2
    go_ret
    exact ⟨rfl, HB.out⟩

/-! ### impl_Bolts_allowed_1: function 67 (told by hand) -/
/-- The function value of impl.Bolts.allowed: whether a state has what a block forbids. -/
def impl_Bolts_allowed_1.rule (s : ByteArray) (_ : Nat) (x y z u : Int) : Option Bool :=
 if 0 ≤ x ∧ x < (s.size : Int) then (if wrap64 (bt s x - 48) = y then (if 0 ≤ z ∧ z < (s.size : Int) then some (decide (wrap64 (bt s z - 48) = u)) else none) else some false) else none
theorem impl_Bolts_allowed_1.rule_mono (s : ByteArray) : ∀ x y z u n, LeO (impl_Bolts_allowed_1.rule s n x y z u) (impl_Bolts_allowed_1.rule s (n + 1) x y z u) := fun _ _ _ _ _ => LeO.refl _
set_option maxHeartbeats 8000000 in
set_option maxRecDepth 100000 in
theorem impl_Bolts_allowed_1.calls (B : Nat) (s : ByteArray) (k : Nat) (x y z u : Int) (b : Bool) (w : World) (hs : w.cell? ⟨B, 0, none⟩ = some (.string s)) (h : impl_Bolts_allowed_1.rule s k x y z u = some b) :
  Calls Try.prog 67 (#[.agg #[.int .i64 x, .int .i64 y, .int .i64 z, .int .i64 u]] ++ #[.pointer (some ⟨B, 0, none⟩)]) w fun e w' => e = .returned (.bool b) ∧ Below w.heap.size w w' := by
 show Calls Try.prog 67 #[.agg #[.int .i64 x, .int .i64 y, .int .i64 z, .int .i64 u], .pointer (some ⟨B, 0, none⟩)] w _
 have hu2 := Try.underlying77
 have hlt := World.block_lt_of_cell? w _ hs
 have HS := aM hs
 have HL := aM hlt
 clear hs hlt
 unfold impl_Bolts_allowed_1.rule at h
 by_cases c1 : 0 ≤ x ∧ x < (s.size : Int)
 ·rw [if_pos c1] at h
  obtain ⟨c1a, c1b⟩ := c1
  by_cases c2 : wrap64 (bt s x - 48) = y
  ·rw [if_pos c2] at h
   by_cases c3 : 0 ≤ z ∧ z < (s.size : Int)
   ·rw [if_pos c3] at h
    obtain ⟨c3a, c3b⟩ := c3
    obtain rfl := Option.some.inj h
    clear h
    have b1 : ∀ h : x.toNat < s.size, ((s[x.toNat]'h).toNat : Int) = bt s x := bt_at s x
    have b3 : ∀ h : z.toNat < s.size, ((s[z.toNat]'h).toNat : Int) = bt s z := bt_at s z
    have w1 : IntKind.i64.wrap (bt s x) = bt s x := by have := bt_range s x; rw [IntKind.wrap_i64]; omega
    have w3 : IntKind.i64.wrap (bt s z) = bt s z := by have := bt_range s z; rw [IntKind.wrap_i64]; omega
    have d2 : (IntKind.i64.wrap (bt s x - 48) == y) = true := by rw [i64_w]; exact beq_iff_eq.2 c2
    have d3 : (IntKind.i64.wrap (bt s z - 48) == u) = decide (wrap64 (bt s z - 48) = u) := by rw [i64_w]; rfl
    go_enter Try.func67, Try.ntmps67
    go_wp2_with (first | ((with_reducible refine gate_dst (N := 2) rfl ?_); refine box_event ?hg (N := 2) ?hd (cs := #[.int .i64 x, .int .i64 y, .int .i64 z, .int .i64 u]) (t := 77) ?hr ?_; (case hd => rfl); (case hg => rfl); (case hr => first | (go_simp; done) | (go_simp; rfl)); intro gb hg w5 hbox hb; have HB := aM hb; have hz0 : w5.cell? ⟨B, 0, none⟩ = some (.string s) := (hb.cell (p := ⟨B, 0, none⟩) HL.out).trans HS.out; have hy0 : w5.cell? ⟨gb, 0, none⟩ = some (.int .i64 x) := (blk_cell hbox 0).trans rfl; have hy1 : w5.cell? ⟨gb, 1, none⟩ = some (.int .i64 y) := (blk_cell hbox 1).trans rfl; have hy2 : w5.cell? ⟨gb, 2, none⟩ = some (.int .i64 z) := (blk_cell hbox 2).trans rfl; have hy3 : w5.cell? ⟨gb, 3, none⟩ = some (.int .i64 u) := (blk_cell hbox 3).trans rfl; clear hb hbox hg))
    go_quiet (fail)
    go_wp2
    go_ret
    exact ⟨rfl, pw_below_drewN HB.out _⟩
   ·rw [if_neg c3] at h; exact absurd h (by simp)
  ·rw [if_neg c2] at h
   obtain rfl := Option.some.inj h
   clear h
   have b1 : ∀ h : x.toNat < s.size, ((s[x.toNat]'h).toNat : Int) = bt s x := bt_at s x
   have w1 : IntKind.i64.wrap (bt s x) = bt s x := by have := bt_range s x; rw [IntKind.wrap_i64]; omega
   have d2 : (IntKind.i64.wrap (bt s x - 48) == y) = false := by rw [i64_w]; exact beq_eq_false_iff_ne.2 c2
   go_enter Try.func67, Try.ntmps67
   go_wp2_with (first | ((with_reducible refine gate_dst (N := 2) rfl ?_); refine box_event ?hg (N := 2) ?hd (cs := #[.int .i64 x, .int .i64 y, .int .i64 z, .int .i64 u]) (t := 77) ?hr ?_; (case hd => rfl); (case hg => rfl); (case hr => first | (go_simp; done) | (go_simp; rfl)); intro gb hg w5 hbox hb; have HB := aM hb; have hz0 : w5.cell? ⟨B, 0, none⟩ = some (.string s) := (hb.cell (p := ⟨B, 0, none⟩) HL.out).trans HS.out; have hy0 : w5.cell? ⟨gb, 0, none⟩ = some (.int .i64 x) := (blk_cell hbox 0).trans rfl; have hy1 : w5.cell? ⟨gb, 1, none⟩ = some (.int .i64 y) := (blk_cell hbox 1).trans rfl; have hy2 : w5.cell? ⟨gb, 2, none⟩ = some (.int .i64 z) := (blk_cell hbox 2).trans rfl; have hy3 : w5.cell? ⟨gb, 3, none⟩ = some (.int .i64 u) := (blk_cell hbox 3).trans rfl; clear hb hbox hg))
   go_quiet (fail)
   go_wp2
   go_ret
   exact ⟨rfl, pw_below_drewN HB.out _⟩
 ·rw [if_neg c1] at h; exact absurd h (by simp)

/-! ### impl_Bolts_allowed: function 55 (told by hand) -/
def impl_Bolts_allowed.f (k : Nat) (l0_0 : List Int) (l0_1 : List S77) (a1 : ByteArray) : Option Bool := (slices_ContainsFunc_Block.f (impl_Bolts_allowed_1.rule a1) k l0_1).bind fun t => some (!t)
theorem impl_Bolts_allowed.mono : ∀ a0 a1 a2 k, LeO (impl_Bolts_allowed.f k a0 a1 a2) (impl_Bolts_allowed.f (k + 1) a0 a1 a2) := fun _ a1 a2 k => LeO.bind (slices_ContainsFunc_Block.mono (impl_Bolts_allowed_1.rule_mono a2) a1 k) (fun _ => LeO.refl _)
set_option maxHeartbeats 8000000 in
set_option maxRecDepth 100000 in
theorem impl_Bolts_allowed.calls (k : Nat) (A0_0 : Option Addr) (c0_0 : Nat) (l0_0 : List Int) (A0_1 : Option Addr) (c0_1 : Nat) (l0_1 : List (S77)) (a1 : ByteArray) (r : Bool) (w : World) (hr0_0 : Kd.C (Kd.int .i64) w A0_0 l0_0.length l0_0) (hc0_0 : l0_0.length ≤ c0_0) (hr0_1 : Kd.C k77 w A0_1 l0_1.length l0_1) (hc0_1 : l0_1.length ≤ c0_1) (h : impl_Bolts_allowed.f k l0_0 l0_1 a1 = some r) :
  Calls Try.prog 55 #[.agg #[.slice A0_0 l0_0.length c0_0, .slice A0_1 l0_1.length c0_1], .string a1] w fun e w' => e = .returned (.bool r) ∧ Below w.heap.size w w' := by
 have hmf : ∀ (fn : Fn) (first cap : Array Value) (w : World), (Instr.makeFunc fn first cap).run Try.prog w = .ok (.func fn first cap) w := fun _ _ _ _ => rfl
 have hu1 := Try.underlying31
 unfold impl_Bolts_allowed.f at h
 obtain ⟨t, A1, h⟩ := Option.bind_eq_some_iff.mp h
 obtain rfl := Option.some.inj h
 clear h
 have HR0 := aM hr0_0
 have HR1 := aM hr0_1
 have HC1 := aM hc0_1
 have HA := aM A1
 clear hr0_0 hr0_1 hc0_0 hc0_1 A1
 go_enter Try.func55, Try.ntmps55
 go_wp2_with (first | ((with_reducible refine gate_dst (N := 2) rfl ?_); refine box_event ?hg (N := 2) ?hd (cs := #[.slice A0_0 l0_0.length c0_0, .slice A0_1 l0_1.length c0_1]) (t := 31) ?hr ?_; (case hd => rfl); (case hg => rfl); (case hr => first | (go_simp; done) | (go_simp; rfl)); intro gb hg w5 hbox hb; have HB := aM hb; have BK := aM hbox; clear hb hbox hg) | ((with_reducible refine gate_dst (N := 3) rfl ?_); refine box_event ?hg (N := 3) ?hd (cs := #[.string a1]) (t := 9) ?hr ?_; (case hd => rfl); (case hg => rfl); (case hr => first | (go_simp; done) | (go_simp; rfl)); intro gs hg w6 hbox hb; have n0 := aM (below_step HB.out hb); have n1 := aM (blk_below (g := gb) (o := .cells #[.slice A0_0 l0_0.length c0_0, .slice A0_1 l0_1.length c0_1] 31 (0, 0)) BK.out hb); clear HB BK; have HB := n0; have hz0 : w6.cell? ⟨gb, 0, none⟩ = some (.slice A0_0 l0_0.length c0_0) := (blk_cell n1.out 0).trans rfl; have hz1 : w6.cell? ⟨gb, 1, none⟩ = some (.slice A0_1 l0_1.length c0_1) := (blk_cell n1.out 1).trans rfl; have HS := aM ((blk_cell hbox 0).trans rfl : w6.cell? ⟨gs, 0, none⟩ = some (.string a1)); have HL := aM (World.block_lt_of_cell? w6 _ HS.out); clear hb hbox hg n0 n1) | (go_at_call 50; (with_reducible refine (slices_ContainsFunc_Block.calls 67 #[.pointer (some ⟨gs, 0, none⟩)] (Go.Proofs.enters_of Try.func67 (by kernel_rfl) rfl) (impl_Bolts_allowed_1.rule a1) k A0_1 c0_1 l0_1 t w6 (Kd.C_below HR1.out HB.out) HC1.out (fun j x y z u b W' hb' hj => impl_Bolts_allowed_1.calls gs a1 j x y z u b W' ((hb'.cell (p := ⟨gs, 0, none⟩) HL.out).trans HS.out) hj) HA.out).mono ?_); rintro e w7 ⟨rfl, hb⟩; have HB7 := aM (below_step HB.out hb); clear hb))
 go_ret
 exact ⟨rfl, HB7.out⟩

end Go.Proofs.Ytehhfcbhoaocdaa.PP
