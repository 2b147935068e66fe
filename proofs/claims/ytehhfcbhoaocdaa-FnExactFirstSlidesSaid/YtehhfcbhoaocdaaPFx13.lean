-- written by a program of this session's (wip/tools), over the kit's print
import Derived.Test.YtehhfcbhoaocdaaPFx0
import Derived.Test.YtehhfcbhoaocdaaPFx9
import Derived.Test.YtehhfcbhoaocdaaPFx10
import Derived.Test.YtehhfcbhoaocdaaPFx11
import Derived.Test.YtehhfcbhoaocdaaPFx12
-- squeezed
-- squeezed twice
namespace Go.Proofs.Ytehhfcbhoaocdaa.PF
open Go.RowKit Go.Proofs.YtehhfcbhoaocdaaW.PrintWords Go.Proofs.YtehhfcbhoaocdaaW.PrintLast Go.Proofs.YtehhfcbhoaocdaaW.PrintMore
attribute [local go_sem] max2_int min2_int max_two min_two max_three min_three max_four min_four   -- for this text's walks alone
set_option linter.unusedVariables false
set_option linter.unusedSimpArgs false

/-! ### impl_AreBolts_2: function 51 (told by hand) -/
/-- The function value of impl.AreBolts that tells whether a block is none of the bolts'. -/
def impl_AreBolts_2.rule (l0 : List Int) (l1 : List S77) (_ : Nat) (x y z u : Int) : Option Bool := (impl_Bolts_isBlock.f l0 l1 x y z u).bind fun t => some (!t)
theorem impl_AreBolts_2.rule_mono (l0 : List Int) (l1 : List S77) : ∀ x y z u n, LeO (impl_AreBolts_2.rule l0 l1 n x y z u) (impl_AreBolts_2.rule l0 l1 (n + 1) x y z u) := fun _ _ _ _ _ => LeO.refl _
set_option maxHeartbeats 8000000 in
set_option maxRecDepth 100000 in
theorem impl_AreBolts_2.calls (B : Nat) (A0 : Option Addr) (c0 : Nat) (l0 : List Int) (A1 : Option Addr) (c1 : Nat) (l1 : List S77) (k : Nat) (x y z u : Int) (b : Bool) (w : World) (hbk : w.heap[B]? = some (.cells #[.slice A0 l0.length c0, .slice A1 l1.length c1] 31 (0, 0)))
  (hr0 : Kd.C (Kd.int .i64) w A0 l0.length l0) (hc0 : l0.length ≤ c0) (hr1 : Kd.C k77 w A1 l1.length l1) (hc1 : l1.length ≤ c1) (h : impl_AreBolts_2.rule l0 l1 k x y z u = some b) :
  Calls Try.prog 51 (#[.agg #[.int .i64 x, .int .i64 y, .int .i64 z, .int .i64 u]] ++ #[.pointer (some ⟨B, 0, none⟩)]) w fun e w' => e = .returned (.bool b) ∧ Below w.heap.size w w' := by
 show Calls Try.prog 51 #[.agg #[.int .i64 x, .int .i64 y, .int .i64 z, .int .i64 u], .pointer (some ⟨B, 0, none⟩)] w _
 have hu1 := Try.underlying31
 have hu2 := Try.underlying77
 unfold impl_AreBolts_2.rule at h
 obtain ⟨t, A1_, h⟩ := Option.bind_eq_some_iff.mp h
 obtain rfl := Option.some.inj h
 clear h
 have HR0 := aM hr0
 have HR1 := aM hr1
 have HA := aM A1_
 have HBK := aM hbk
 clear hr0 hr1 A1_ hbk
 go_enter Try.func51, Try.ntmps51
 go_wp2_with (first | ((with_reducible refine gate_dst (N := 2) rfl ?_); refine box_event ?hg (N := 2) ?hd (cs := #[.int .i64 x, .int .i64 y, .int .i64 z, .int .i64 u]) (t := 77) ?hr ?_; (case hd => rfl); (case hg => rfl); (case hr => go_simp); intro gb hg w5 hbox hb; have BK := aM (blk_below (g := B) (o := .cells #[.slice A0 l0.length c0, .slice A1 l1.length c1] 31 (0, 0)) HBK.out hb); have HB := aM hb; have hz0 : w5.cell? ⟨B, 0, none⟩ = some (.slice A0 l0.length c0) := (blk_cell BK.out 0).trans rfl; have hz1 : w5.cell? ⟨B, 1, none⟩ = some (.slice A1 l1.length c1) := (blk_cell BK.out 1).trans rfl; have hy0 : w5.cell? ⟨gb, 0, none⟩ = some (.int .i64 x) := (blk_cell hbox 0).trans rfl; have hy1 : w5.cell? ⟨gb, 1, none⟩ = some (.int .i64 y) := (blk_cell hbox 1).trans rfl; have hy2 : w5.cell? ⟨gb, 2, none⟩ = some (.int .i64 z) := (blk_cell hbox 2).trans rfl; have hy3 : w5.cell? ⟨gb, 3, none⟩ = some (.int .i64 u) := (blk_cell hbox 3).trans rfl; clear hb hbox hg) | (go_at_call 52; (with_reducible refine (impl_Bolts_isBlock.calls A0 c0 l0 A1 c1 l1 x y z u t _ (Kd.C_below HR0.out HB.out) hc0 (Kd.C_below HR1.out HB.out) hc1 HA.out).mono ?_); rintro e w6 ⟨rfl, hb⟩; have HB6 := aM (below_step HB.out hb); clear hb))
 go_ret
 exact ⟨rfl, HB6.out⟩

/-! ### impl_AreBolts: function 25 (told by hand) -/
def impl_AreBolts_1.rule (_ : Nat) (x : Int) : Option Bool := impl_AreBolts_1.f x
theorem impl_AreBolts_1.rule_mono : ∀ x n, LeO (impl_AreBolts_1.rule n x) (impl_AreBolts_1.rule (n + 1) x) := fun _ _ => LeO.refl _
theorem impl_AreBolts_1.rule_calls (j : Nat) (x : Int) (b : Bool) (W : World) (h : impl_AreBolts_1.rule j x = some b) : Calls Try.prog 48 (#[.int .i64 x] ++ #[]) W fun e w' => e = .returned (.bool b) ∧ Below W.heap.size W w' := by
 refine (impl_AreBolts_1.calls x b W h).mono ?_
 rintro e w' ⟨rfl, ⟨nd, rfl⟩⟩
 exact ⟨rfl, pw_below_drewN (Below.refl _ _) _⟩
def impl_AreBolts.j0 : Nat → Bool → List Int → List (S77) → Option (Bool)
 | 0, _, _, _ => none
 | k + 1, x18, x192000, x192001 => if x18 = true then (some false) else ((impl_product.f k x192000).bind fun t194 => (if t194 ≤ 1000 then ((slices_ContainsFunc_Block.f (impl_AreBolts_2.rule x192000 x192001) k x192001).bind fun t195 => (some (!t195))) else (some false)))
def impl_AreBolts.f (k : Nat) (l0_0 : List Int) (l0_1 : List (S77)) : Option (Bool) := (impl_in.f (l0_0.length : Int) 1 6).bind fun t192 => (if t192 = true then (if (l0_1.length : Int) > 40 then (impl_AreBolts.j0 k true l0_0 l0_1) else ((slices_ContainsFunc_int_int.f impl_AreBolts_1.rule k l0_0).bind fun t193 => (impl_AreBolts.j0 k t193 l0_0 l0_1))) else (impl_AreBolts.j0 k true l0_0 l0_1))
theorem impl_AreBolts.mono_l : ∀ k, (∀ y0 y1 y2, LeO (impl_AreBolts.j0 k y0 y1 y2) (impl_AreBolts.j0 (k + 1) y0 y1 y2))
 | 0 => fun _ _ _ r h => by simp [impl_AreBolts.j0] at h
 | k + 1 => by
  have ih0 := impl_AreBolts.mono_l k
  ·intro y0 y1 y2
   unfold impl_AreBolts.j0
   repeat' first
   | (with_reducible exact ih0 _ _ _)
   | (with_reducible exact slices_ContainsFunc_Block.mono (impl_AreBolts_2.rule_mono _ _) _ _)
   | (with_reducible exact impl_product.mono _ _)
   | (with_reducible exact slices_ContainsFunc_int_int.mono impl_AreBolts_1.rule_mono _ _)
   | (with_reducible exact LeO.refl _)
   | (with_reducible exact LeO.none _)
   | (with_reducible refine LeO.ite ?_ ?_)
   | (with_reducible refine LeO.bind ?_ (fun _ => ?_))
   | exact ih0 _ _ _
   | exact slices_ContainsFunc_Block.mono (impl_AreBolts_2.rule_mono _ _) _ _
   | exact impl_product.mono _ _
   | exact slices_ContainsFunc_int_int.mono impl_AreBolts_1.rule_mono _ _
   | exact LeO.none _
   | refine LeO.ite ?_ ?_
   | refine LeO.bind ?_ (fun _ => ?_)
theorem impl_AreBolts.mono : ∀ a0 a1 k, LeO (impl_AreBolts.f k a0 a1) (impl_AreBolts.f (k + 1) a0 a1) := by
 intro a0 a1 k
 have ih0 := impl_AreBolts.mono_l k
 unfold impl_AreBolts.f
 repeat' first
   | (with_reducible exact ih0 _ _ _)
   | (with_reducible exact slices_ContainsFunc_Block.mono (impl_AreBolts_2.rule_mono _ _) _ _)
   | (with_reducible exact impl_product.mono _ _)
   | (with_reducible exact slices_ContainsFunc_int_int.mono impl_AreBolts_1.rule_mono _ _)
   | (with_reducible exact LeO.refl _)
   | (with_reducible exact LeO.none _)
   | (with_reducible refine LeO.ite ?_ ?_)
   | (with_reducible refine LeO.bind ?_ (fun _ => ?_))
   | exact ih0 _ _ _
   | exact slices_ContainsFunc_Block.mono (impl_AreBolts_2.rule_mono _ _) _ _
   | exact impl_product.mono _ _
   | exact slices_ContainsFunc_int_int.mono impl_AreBolts_1.rule_mono _ _
   | exact LeO.none _
   | refine LeO.ite ?_ ?_
   | refine LeO.bind ?_ (fun _ => ?_)
set_option maxHeartbeats 8000000 in
set_option maxRecDepth 100000 in
theorem impl_AreBolts.calls (k : Nat) (A0_0 : Option Addr) (c0_0 : Nat) (l0_0 : List Int) (A0_1 : Option Addr) (c0_1 : Nat) (l0_1 : List (S77)) (r : Bool) (w : World) (hr0_0 : Kd.C (Kd.int .i64) w A0_0 l0_0.length l0_0) (hc0_0 : l0_0.length ≤ c0_0) (hr0_1 : Kd.C k77 w A0_1 l0_1.length l0_1) (hc0_1 : l0_1.length ≤ c0_1) (h : impl_AreBolts.f k l0_0 l0_1 = some r) :
  Calls Try.prog 25 #[.agg #[.slice A0_0 l0_0.length c0_0, .slice A0_1 l0_1.length c0_1]] w fun e w' => e = .returned (.bool r) ∧ Below w.heap.size w w' := by
 have hu33 := Try.underlying31
 have HR0_0 := aM hr0_0
 have HC0_0 := aM hc0_0
 clear hr0_0 hc0_0
 have HR0_1 := aM hr0_1
 have HC0_1 := aM hc0_1
 clear hr0_1 hc0_1
 have HB := aM (Below.refl w.heap.size w)
 have H : ((impl_in.f (l0_0.length : Int) 1 6).bind fun t192 => (if t192 = true then (if (l0_1.length : Int) > 40 then (impl_AreBolts.j0 k true l0_0 l0_1) else ((slices_ContainsFunc_int_int.f impl_AreBolts_1.rule k l0_0).bind fun t193 => (impl_AreBolts.j0 k t193 l0_0 l0_1))) else (impl_AreBolts.j0 k true l0_0 l0_1))) = some r := h
 clear h
 have HC2 := aM H
 clear H
 go_enter Try.func25, Try.ntmps25
 go_upto_region 1 with (first | ((with_reducible refine gate_dst (N := 1) rfl ?_); (try (refine gate_guard (by rfl) ?_; dsimp only)); refine box_event ?hg (N := 1) ?hd (cs := #[.slice A0_0 l0_0.length c0_0, .slice A0_1 l0_1.length c0_1]) (t := 31) ?hr ?_; (case hd => rfl); (case hg => rfl); (case hr => go_simp); intro gb191 hg w3 hbox hb; have BK191 := aM (hbox); have GW191 := aM ((by rw [hg]; exact (below_size HB.out) : w.heap.size ≤ gb191)); replace HB := aM (below_step HB.out hb); have GE191 := GW191; clear hb hbox hg))
 (try simp only [Act.put, sA, sB, sC])
 go_cut [18] (fun v18 wc => ∃ (kq : Nat) (x18_1 : Bool), v18 = .bool x18_1 ∧ Aside0 (impl_AreBolts.j0 kq x18_1 l0_0 l0_1 = some r) ∧ Aside0 (kq ≤ k) ∧ Aside0 (wc.heap[gb191]? = some (.cells #[(.slice A0_0 l0_0.length c0_0), (.slice A0_1 l0_1.length c0_1)] 31 (0, 0))) ∧ Aside0 (Below w.heap.size w wc))
 case first =>
  have H := HC2.out
  clear HC2
  replace H := Option.bind_eq_some_iff.mp H
  obtain ⟨t192, A40, H⟩ := H
  replace H : (if t192 = true then (if (l0_1.length : Int) > 40 then (impl_AreBolts.j0 k true l0_0 l0_1) else ((slices_ContainsFunc_int_int.f impl_AreBolts_1.rule k l0_0).bind fun t193 => (impl_AreBolts.j0 k t193 l0_0 l0_1))) else (impl_AreBolts.j0 k true l0_0 l0_1)) = some r := H
  have A4 := aM A40
  clear A40
  by_cases c5 : t192 = true
  ·subst c5
   have H1 : (if (l0_1.length : Int) > 40 then (impl_AreBolts.j0 k true l0_0 l0_1) else ((slices_ContainsFunc_int_int.f impl_AreBolts_1.rule k l0_0).bind fun t193 => (impl_AreBolts.j0 k t193 l0_0 l0_1))) = some r := by rw [if_pos rfl] at H; exact H
   clear H; have H := H1; clear H1
   by_cases c6 : (l0_1.length : Int) > 40
   ·rw [if_pos c6] at H
    have c6b0 : decide (40 < (l0_1.length : Int)) = true := decide_eq_true c6
    have c6b1 : decide (40 < l0_1.length) = true := decide_eq_true (by omega)
    clear c6
    (first | rw [c6b0] | (simp only [i64_w, i32_w]; rw [c6b0]) | skip)
    have H' := aM H
    clear H
    have hcz7_0 : w3.cell? ⟨gb191, 0, none⟩ = some (.slice A0_0 l0_0.length c0_0) := (blk_cell BK191.out 0).trans rfl
    have hcz7_1 : w3.cell? ⟨gb191, 1, none⟩ = some (.slice A0_1 l0_1.length c0_1) := (blk_cell BK191.out 1).trans rfl
    have hfz7_0 := blk_frozen BK191.out 0
    have hfz7_1 := blk_frozen BK191.out 1
    go_wp2_with (first | ((with_reducible refine gate_callee (f := 46) rfl ?_); refine goesL_ (some 6) rfl rfl Try.func46 (by kernel_rfl) rfl #[.int .i64 (l0_0.length : Int), .int .i64 1, .int .i64 6] rfl (by simp only [mA, mB, mC]; all_goals rfl) ?_; (with_reducible refine (impl_in.calls (l0_0.length : Int) 1 6 true _ A4.out).mono ?_); rintro e w' ⟨rfl, ⟨nd, rfl⟩⟩; refine ⟨_, rfl, ?_⟩))
    go_meet
    case rel => exact ⟨_, (true), rfl, H', ⟨by omega⟩, ⟨by repeat first | exact BK191.out | refine kN ?_ _ | refine kD ?_ | refine kA ?_ _⟩, ⟨by repeat first | exact HB.out | apply bA | apply bN | apply bD | refine bS ?_ GE191.out⟩⟩
   ·rw [if_neg c6] at H
    have c6b0 : decide (40 < (l0_1.length : Int)) = false := decide_eq_false c6
    have c6b1 : decide (40 < l0_1.length) = false := decide_eq_false (by omega)
    clear c6
    (first | rw [c6b0] | (simp only [i64_w, i32_w]; rw [c6b0]) | skip)
    replace H := Option.bind_eq_some_iff.mp H
    obtain ⟨t193, A80, H⟩ := H
    replace H : (impl_AreBolts.j0 k t193 l0_0 l0_1) = some r := H
    have A8 := aM A80
    clear A80
    have H' := aM H
    clear H
    have hcz9_0 : w3.cell? ⟨gb191, 0, none⟩ = some (.slice A0_0 l0_0.length c0_0) := (blk_cell BK191.out 0).trans rfl
    have hcz9_1 : w3.cell? ⟨gb191, 1, none⟩ = some (.slice A0_1 l0_1.length c0_1) := (blk_cell BK191.out 1).trans rfl
    have hfz9_0 := blk_frozen BK191.out 0
    have hfz9_1 := blk_frozen BK191.out 1
    go_wp2_with (first | ((with_reducible refine gate_callee (f := 46) rfl ?_); refine goesL_ (some 6) rfl rfl Try.func46 (by kernel_rfl) rfl #[.int .i64 (l0_0.length : Int), .int .i64 1, .int .i64 6] rfl (by simp only [mA, mB, mC]; all_goals rfl) ?_; (with_reducible refine (impl_in.calls (l0_0.length : Int) 1 6 true _ A4.out).mono ?_); rintro e w' ⟨rfl, ⟨nd, rfl⟩⟩; refine ⟨_, rfl, ?_⟩) | (go_at_call 47; (with_reducible refine (slices_ContainsFunc_int_int.calls 48 #[] (Go.Proofs.enters_of Try.func48 (by kernel_rfl) rfl) impl_AreBolts_1.rule k _ _ l0_0 t193 _ ?side1 ?side2 (fun j x b W' _ hj => impl_AreBolts_1.rule_calls j x b W' hj) A8.out).mono ?_); (case side1 => repeat (first | exact (Kd.C_below HR0_0.out (by repeat first | exact HB.out | apply bA | apply bN | apply bD | refine bS ?_ GE191.out)) | (with_reducible refine cA ?_ _) | (with_reducible refine cN ?_ _) | (with_reducible refine cD ?_))); (case side2 => exact HC0_0.out); rintro e w10 ⟨rfl, hb⟩; replace BK191 := aM (blk_below (g := gb191) (o := .cells #[.slice A0_0 l0_0.length c0_0, .slice A0_1 l0_1.length c0_1] 31 (0, 0)) (by repeat first | exact BK191.out | refine kN ?_ _ | refine kD ?_ | refine kA ?_ _) hb); replace HB := aM (below_step (by repeat first | exact HB.out | apply bA | apply bN | apply bD | refine bS ?_ GE191.out) hb); (try clear hb)))
    go_meet
    case rel => exact ⟨_, (t193), rfl, H', ⟨by omega⟩, BK191, HB⟩
  ·replace c5 := Bool.eq_false_iff.mpr c5
   subst c5
   have H1 : (impl_AreBolts.j0 k true l0_0 l0_1) = some r := by rw [if_neg (show ¬ (false = true) by decide)] at H; exact H
   clear H; have H := H1; clear H1
   have H' := aM H
   clear H
   have hcz11_0 : w3.cell? ⟨gb191, 0, none⟩ = some (.slice A0_0 l0_0.length c0_0) := (blk_cell BK191.out 0).trans rfl
   have hcz11_1 : w3.cell? ⟨gb191, 1, none⟩ = some (.slice A0_1 l0_1.length c0_1) := (blk_cell BK191.out 1).trans rfl
   have hfz11_0 := blk_frozen BK191.out 0
   have hfz11_1 := blk_frozen BK191.out 1
   go_wp2_with (first | ((with_reducible refine gate_callee (f := 46) rfl ?_); refine goesL_ (some 6) rfl rfl Try.func46 (by kernel_rfl) rfl #[.int .i64 (l0_0.length : Int), .int .i64 1, .int .i64 6] rfl (by simp only [mA, mB, mC]; all_goals rfl) ?_; (with_reducible refine (impl_in.calls (l0_0.length : Int) 1 6 false _ A4.out).mono ?_); rintro e w' ⟨rfl, ⟨nd, rfl⟩⟩; refine ⟨_, rfl, ?_⟩))
   go_meet
   case rel => exact ⟨_, (true), rfl, H', ⟨by omega⟩, ⟨by repeat first | exact BK191.out | refine kN ?_ _ | refine kD ?_ | refine kA ?_ _⟩, ⟨by repeat first | exact HB.out | apply bA | apply bN | apply bD | refine bS ?_ GE191.out⟩⟩
 case rest =>
  clear HC2
  try clear p2
  try clear c5
  try clear c6
  try clear c6b0
  try clear c6b1
  try clear c8
  try clear hcz11_0
  try clear hcz11_1
  try clear hcz7_0
  try clear hcz7_1
  try clear hcz9_0
  try clear hcz9_1
  try clear hfz11_0
  try clear hfz11_1
  try clear hfz7_0
  try clear hfz7_1
  try clear hfz9_0
  try clear hfz9_1
  obtain ⟨kq, x18_1, rfl, HA, HJ1, BK191, HB⟩ := hcut
  cases kq with
  | zero => exact absurd HA.out (by simp [impl_AreBolts.j0])
  | succ kj1 =>
   have H := HA.out
   clear HA
   simp only [impl_AreBolts.j0] at H
   by_cases c12 : x18_1 = true
   ·subst c12
    have H1 : (some false) = some r := by rw [if_pos rfl] at H; exact H
    clear H; have H := H1; clear H1
    obtain rfl := Option.some.inj H
    go_wp2
    go_ret
    exact ⟨rfl, HB.out⟩
   ·replace c12 := Bool.eq_false_iff.mpr c12
    subst c12
    have H1 : ((impl_product.f kj1 l0_0).bind fun t194 => (if t194 ≤ 1000 then ((slices_ContainsFunc_Block.f (impl_AreBolts_2.rule l0_0 l0_1) kj1 l0_1).bind fun t195 => (some (!t195))) else (some false))) = some r := by rw [if_neg (show ¬ (false = true) by decide)] at H; exact H
    clear H; have H := H1; clear H1
    replace H := Option.bind_eq_some_iff.mp H
    obtain ⟨t194, A130, H⟩ := H
    replace H : (if t194 ≤ 1000 then ((slices_ContainsFunc_Block.f (impl_AreBolts_2.rule l0_0 l0_1) kj1 l0_1).bind fun t195 => (some (!t195))) else (some false)) = some r := H
    have A13 := aM A130
    clear A130
    by_cases c14 : t194 ≤ 1000
    ·rw [if_pos c14] at H
     have c14b0 : decide (t194 ≤ 1000) = true := decide_eq_true c14
     clear c14
     replace H := Option.bind_eq_some_iff.mp H
     obtain ⟨t195, A150, H⟩ := H
     replace H : (some (!t195)) = some r := H
     have A15 := aM A150
     clear A150
     obtain rfl := Option.some.inj H
     have hcz16_0 : wc.cell? ⟨gb191, 0, none⟩ = some (.slice A0_0 l0_0.length c0_0) := (blk_cell BK191.out 0).trans rfl
     have hcz16_1 : wc.cell? ⟨gb191, 1, none⟩ = some (.slice A0_1 l0_1.length c0_1) := (blk_cell BK191.out 1).trans rfl
     have hfz16_0 := blk_frozen BK191.out 0
     have hfz16_1 := blk_frozen BK191.out 1
     go_wp2_with (first | ((with_reducible refine gate_callee (f := 49) rfl ?_); refine goesL_ (some 21) rfl rfl Try.func49 (by kernel_rfl) rfl #[.slice A0_0 l0_0.length c0_0] rfl (by simp only [mA, mB, mC]; all_goals rfl) ?_; (with_reducible refine (impl_product.calls kj1 _ _ l0_0 t194 _ ?side1 ?side2 A13.out).mono ?_); (case side1 => repeat first | exact Kd.C_below HR0_0.out HB.out | refine cA ?_ _ | refine cN ?_ _ | refine cD ?_); (case side2 => exact HC0_0.out); rintro e w' ⟨rfl, ⟨nd, rfl⟩⟩; refine ⟨_, rfl, ?_⟩) | (go_at_call 50; (with_reducible refine (slices_ContainsFunc_Block.calls 51 #[.pointer (some ⟨gb191, 0, none⟩)] (Go.Proofs.enters_of Try.func51 (by kernel_rfl) rfl) (impl_AreBolts_2.rule l0_0 l0_1) kj1 _ _ l0_1 t195 _ ?side1 ?side2 (fun j x y z u b W' hb' hj => impl_AreBolts_2.calls gb191 A0_0 c0_0 l0_0 A0_1 c0_1 l0_1 j x y z u b W' (blk_below (g := gb191) (o := .cells #[.slice A0_0 l0_0.length c0_0, .slice A0_1 l0_1.length c0_1] 31 (0, 0)) (by repeat first | exact BK191.out | refine kN ?_ _ | refine kD ?_ | refine kA ?_ _) hb') (Kd.C_below (Kd.C_below HR0_0.out (by repeat first | exact HB.out | apply bA | apply bN | apply bD | refine bS ?_ GE191.out)) hb') HC0_0.out (Kd.C_below (Kd.C_below HR0_1.out (by repeat first | exact HB.out | apply bA | apply bN | apply bD | refine bS ?_ GE191.out)) hb') HC0_1.out hj) A15.out).mono ?_); (case side1 => repeat (first | exact (Kd.C_below HR0_1.out (by repeat first | exact HB.out | apply bA | apply bN | apply bD | refine bS ?_ GE191.out)) | (with_reducible refine cA ?_ _) | (with_reducible refine cN ?_ _) | (with_reducible refine cD ?_))); (case side2 => exact HC0_1.out); rintro e w17 ⟨rfl, hb⟩; replace BK191 := aM (blk_below (g := gb191) (o := .cells #[.slice A0_0 l0_0.length c0_0, .slice A0_1 l0_1.length c0_1] 31 (0, 0)) (by repeat first | exact BK191.out | refine kN ?_ _ | refine kD ?_ | refine kA ?_ _) hb); replace HB := aM (below_step (by repeat first | exact HB.out | apply bA | apply bN | apply bD | refine bS ?_ GE191.out) hb); (try clear hb)))
     go_ret
     exact ⟨rfl, HB.out⟩
    ·rw [if_neg c14] at H
     have c14b0 : decide (t194 ≤ 1000) = false := decide_eq_false c14
     clear c14
     obtain rfl := Option.some.inj H
     have hcz18_0 : wc.cell? ⟨gb191, 0, none⟩ = some (.slice A0_0 l0_0.length c0_0) := (blk_cell BK191.out 0).trans rfl
     have hcz18_1 : wc.cell? ⟨gb191, 1, none⟩ = some (.slice A0_1 l0_1.length c0_1) := (blk_cell BK191.out 1).trans rfl
     have hfz18_0 := blk_frozen BK191.out 0
     have hfz18_1 := blk_frozen BK191.out 1
     go_wp2_with (first | ((with_reducible refine gate_callee (f := 49) rfl ?_); refine goesL_ (some 21) rfl rfl Try.func49 (by kernel_rfl) rfl #[.slice A0_0 l0_0.length c0_0] rfl (by simp only [mA, mB, mC]; all_goals rfl) ?_; (with_reducible refine (impl_product.calls kj1 _ _ l0_0 t194 _ ?side1 ?side2 A13.out).mono ?_); (case side1 => exact Kd.C_below HR0_0.out HB.out); (case side2 => exact HC0_0.out); rintro e w' ⟨rfl, ⟨nd, rfl⟩⟩; refine ⟨_, rfl, ?_⟩))
     go_ret
     exact ⟨rfl, by repeat first | exact HB.out | apply bA | apply bN | apply bD | refine bS ?_ GE191.out⟩


/-! ### slices_IndexFunc_string_string: function 66 (told by hand) -/
theorem slices_IndexFunc_string_string.goesV_ {ops : Array Oper} {rest : List Oper} {oi : Oper} {a : Act} {w : World} {Q : Exit → Act → World → Prop} {f : FuncId} {lb : Array Value} {as_ : Array Operand} {ts : Array TypeId} {v : Operand} (N : Option Tmp) (hd : oi.dst = N) (hg : oi.guard = none) (args : Array Value)
  (hop : oi.op = .call { callee := .value v, args := as_, argTypes := ts }) (hv : a.eval v = .func (.func f) #[] lb) (hargs : as_.map a.eval = args) (eg : Go.Proofs.Enters Try.prog f)
  (h : Calls Try.prog f (args ++ lb) w fun e w' => ∃ v, e = .returned v ∧ wpList Try.prog ops Q rest (a.put N v) w') : wpList Try.prog ops Q (oi :: rest) a w := by
 refine wpList_plain hg fun K hK => ?_
 have he := eg (args ++ lb) w
 have hrun : (execOp a.eval oi).run Try.prog w = .ok (.enter f (args ++ lb)) w := by
  unfold execOp
  simp [hop, resolve, Deferred.ofValue, invoke, hv, hargs, he]
 unfold Oper.wp
 rw [hrun, Oper.upon_enter]
 refine h.mono fun e w'' hh => ?_
 obtain ⟨v, rfl, hk⟩ := hh
 subst hd
 exact hK _ _ hk
def slices_IndexFunc_string_string.l0 (rule : Nat → ByteArray → Option Bool) : Nat → List ByteArray → Int → Int → Option (Int)
 | 0, _, _, _ => none
 | k + 1, x0, x7, x8 => if x8 < x7 then (if 0 ≤ x8 then (if x8 < (x0.length : Int) then ((rule k (rdOf ByteArray.empty x0 x8)).bind fun t189 => (if t189 = true then (some x8) else (slices_IndexFunc_string_string.l0 rule k x0 x7 (wrap64 (x8 + 1))))) else (none)) else (none)) else (some (-1))
def slices_IndexFunc_string_string.f (rule : Nat → ByteArray → Option Bool) (k : Nat) (l0 : List ByteArray) : Option (Int) := slices_IndexFunc_string_string.l0 rule k l0 (l0.length : Int) 0
theorem slices_IndexFunc_string_string.mono_l {rule : Nat → ByteArray → Option Bool} (hr : ∀ x0 n, LeO (rule n x0) (rule (n + 1) x0)) : ∀ k, (∀ y0 y1 y2, LeO (slices_IndexFunc_string_string.l0 rule k y0 y1 y2) (slices_IndexFunc_string_string.l0 rule (k + 1) y0 y1 y2))
 | 0 => fun _ _ _ r h => by simp [slices_IndexFunc_string_string.l0] at h
 | k + 1 => by
  have ih0 := slices_IndexFunc_string_string.mono_l hr k
  ·intro y0 y1 y2
   unfold slices_IndexFunc_string_string.l0
   repeat' first
   | (with_reducible exact ih0 _ _ _)
   | (with_reducible exact hr _ _)
   | (with_reducible exact LeO.refl _)
   | (with_reducible exact LeO.none _)
   | (with_reducible refine LeO.ite ?_ ?_)
   | (with_reducible refine LeO.bind ?_ (fun _ => ?_))
   | exact ih0 _ _ _
   | exact hr _ _
   | exact LeO.none _
   | refine LeO.ite ?_ ?_
   | refine LeO.bind ?_ (fun _ => ?_)
theorem slices_IndexFunc_string_string.mono {rule : Nat → ByteArray → Option Bool} (hr : ∀ x0 n, LeO (rule n x0) (rule (n + 1) x0)) : ∀ a0 k, LeO (slices_IndexFunc_string_string.f rule k a0) (slices_IndexFunc_string_string.f rule (k + 1) a0) := by
 intro a0 k
 have ih0 := slices_IndexFunc_string_string.mono_l hr k
 unfold slices_IndexFunc_string_string.f
 repeat' first
   | (with_reducible exact ih0 _ _ _)
   | (with_reducible exact hr _ _)
   | (with_reducible exact LeO.refl _)
   | (with_reducible exact LeO.none _)
   | (with_reducible refine LeO.ite ?_ ?_)
   | (with_reducible refine LeO.bind ?_ (fun _ => ?_))
   | exact ih0 _ _ _
   | exact hr _ _
   | exact LeO.none _
   | refine LeO.ite ?_ ?_
   | refine LeO.bind ?_ (fun _ => ?_)
set_option maxHeartbeats 8000000 in
set_option maxRecDepth 100000 in
theorem slices_IndexFunc_string_string.calls (g : Nat) (lb : Array Value) (eg : Go.Proofs.Enters Try.prog g) (rule : Nat → ByteArray → Option Bool) (k : Nat) (A0 : Option Addr) (c0 : Nat) (l0 : List ByteArray) (r : Int) (w : World) (hr0 : Kd.C Kd.string w A0 l0.length l0) (hc0 : l0.length ≤ c0) 
  (hp : ∀ (j : Nat) (x : ByteArray) (b : Bool) (W : World), Below w.heap.size w W → rule j x = some b → Calls Try.prog g (#[.string x] ++ lb) W fun e w' => e = .returned (.bool b) ∧ Below W.heap.size W w')
  (h : slices_IndexFunc_string_string.f rule k l0 = some r) :
  Calls Try.prog 66 #[.slice A0 l0.length c0, .func (.func g) #[] lb] w fun e w' => e = .returned (.int .i64 r) ∧ Below w.heap.size w w' := by
 have HP_ := aM hp
 clear hp
 have EG_ := aM eg
 clear eg
 have HR0 := aM hr0
 have HC0 := aM hc0
 clear hr0 hc0
 have HB := aM (Below.refl w.heap.size w)
 have H : (slices_IndexFunc_string_string.l0 rule k l0 (l0.length : Int) 0) = some r := h
 clear h
 have H' := aM H
 clear H
 go_enter Try.func66, Try.ntmps66
 go_wp2
 go_loopg [8] k (fun kq v8 w' => ∃ (x8_1 : Int), v8 = .int .i64 x8_1 ∧ Aside0 (slices_IndexFunc_string_string.l0 rule kq l0 (l0.length : Int) x8_1 = some r) ∧ Aside0 (kq ≤ k) ∧ Aside0 (Below w.heap.size w w'))
 case atStart => exact ⟨(0), rfl, H', ⟨Nat.le_refl _⟩, HB⟩
 case round =>
  clear H'
  try clear c1
  try clear p2
  obtain ⟨x8_1, rfl, HA, HK1, HB⟩ := hrel
  cases gk with
  | zero => exact absurd HA.out (by simp [slices_IndexFunc_string_string.l0])
  | succ k1 =>
   have H := HA.out
   clear HA
   simp only [slices_IndexFunc_string_string.l0] at H
   by_cases c3 : x8_1 < (l0.length : Int)
   ·rw [if_pos c3] at H
    have c3b0 : decide (x8_1 < (l0.length : Int)) = true := decide_eq_true c3
    clear c3
    by_cases c4 : 0 ≤ x8_1
    ·rw [if_pos c4] at H
     have c4b0 : decide (0 ≤ x8_1) = true := decide_eq_true c4
     clear c4
     by_cases c5 : x8_1 < (l0.length : Int)
     ·rw [if_pos c5] at H
      have c5b0 : decide (x8_1 < (l0.length : Int)) = true := decide_eq_true c5
      clear c5
      replace H := Option.bind_eq_some_iff.mp H
      obtain ⟨t189, A60, H⟩ := H
      replace H : (if t189 = true then (some x8_1) else (slices_IndexFunc_string_string.l0 rule k1 l0 (l0.length : Int) (wrap64 (x8_1 + 1)))) = some r := H
      have A6 := aM A60
      clear A60
      by_cases c7 : t189 = true
      ·subst c7
       have H1 : (some x8_1) = some r := by rw [if_pos rfl] at H; exact H
       clear H; have H := H1; clear H1
       obtain rfl := Option.some.inj H
       have p188 : 0 ≤ (x8_1 : Int) := oT (by assumption)
       have q188 : x8_1 < (l0.length : Int) := oT (by assumption)
       obtain ⟨ad188, e188, hx188_0⟩ := Kd.at_string HR0.out x8_1 p188 q188
       cases e188
       replace hx188_0 := (HB.out.cell (World.block_lt_of_cell? w _ hx188_0)).trans hx188_0
       replace p188 := eq_true p188
       replace q188 := eq_true q188
       go_wp2_with (first | ((with_reducible refine gate_dst (N := 16) rfl ?_); refine slices_IndexFunc_string_string.goesV_ (f := g) (lb := lb) (some 16) rfl rfl #[.string (rdOf ByteArray.empty l0 x8_1)] rfl rfl (by simp only [mA, mB, mC]; all_goals rfl) EG_.out ?_; (with_reducible refine (HP_.out k1 (rdOf ByteArray.empty l0 x8_1) true _ HB.out A6.out).mono ?_); rintro e w8 ⟨rfl, hb⟩; refine ⟨_, rfl, ?_⟩; replace HB := aM (below_step HB.out hb); (try clear hb)))
       go_ret
       exact ⟨rfl, HB.out⟩
      ·replace c7 := Bool.eq_false_iff.mpr c7
       subst c7
       have H1 : (slices_IndexFunc_string_string.l0 rule k1 l0 (l0.length : Int) (wrap64 (x8_1 + 1))) = some r := by rw [if_neg (show ¬ (false = true) by decide)] at H; exact H
       clear H; have H := H1; clear H1
       have H' := aM H
       clear H
       have p188 : 0 ≤ (x8_1 : Int) := oT (by assumption)
       have q188 : x8_1 < (l0.length : Int) := oT (by assumption)
       obtain ⟨ad188, e188, hx188_0⟩ := Kd.at_string HR0.out x8_1 p188 q188
       cases e188
       replace hx188_0 := (HB.out.cell (World.block_lt_of_cell? w _ hx188_0)).trans hx188_0
       replace p188 := eq_true p188
       replace q188 := eq_true q188
       go_wp2_with (first | ((with_reducible refine gate_dst (N := 16) rfl ?_); refine slices_IndexFunc_string_string.goesV_ (f := g) (lb := lb) (some 16) rfl rfl #[.string (rdOf ByteArray.empty l0 x8_1)] rfl rfl (by simp only [mA, mB, mC]; all_goals rfl) EG_.out ?_; (with_reducible refine (HP_.out k1 (rdOf ByteArray.empty l0 x8_1) false _ HB.out A6.out).mono ?_); rintro e w9 ⟨rfl, hb⟩; refine ⟨_, rfl, ?_⟩; replace HB := aM (below_step HB.out hb); (try clear hb)))
       go_roundg k1
       case measure => have := HK1.out; omega
       case rel => exact ⟨(wrap64 (x8_1 + 1)), rfl, H', ⟨by have := HK1.out; omega⟩, HB⟩
     ·rw [if_neg c5] at H
      exact absurd H (by simp)
    ·rw [if_neg c4] at H
     exact absurd H (by simp)
   ·rw [if_neg c3] at H
    have c3b0 : decide (x8_1 < (l0.length : Int)) = false := decide_eq_false c3
    clear c3
    obtain rfl := Option.some.inj H
    go_wp2
    go_ret
    exact ⟨rfl, HB.out⟩




/-! ### slices_ContainsFunc_string_string: function 61 (told by hand) -/
def slices_ContainsFunc_string_string.f (rule : Nat → ByteArray → Option Bool) (k : Nat) (l0 : List ByteArray) : Option Bool := (slices_IndexFunc_string_string.f rule k l0).bind fun t => some (decide (0 ≤ t))
theorem slices_ContainsFunc_string_string.mono {rule : Nat → ByteArray → Option Bool} (hr : ∀ x0 n, LeO (rule n x0) (rule (n + 1) x0)) : ∀ a0 k, LeO (slices_ContainsFunc_string_string.f rule k a0) (slices_ContainsFunc_string_string.f rule (k + 1) a0) := fun a0 k => LeO.bind (slices_IndexFunc_string_string.mono hr a0 k) (fun _ => LeO.refl _)
set_option maxHeartbeats 4000000 in
set_option maxRecDepth 100000 in
theorem slices_ContainsFunc_string_string.calls (g : Nat) (lb : Array Value) (eg : Go.Proofs.Enters Try.prog g) (rule : Nat → ByteArray → Option Bool) (k : Nat) (A0 : Option Addr) (c0 : Nat) (l0 : List ByteArray) (r : Bool) (w : World) (hr0 : Kd.C Kd.string w A0 l0.length l0) (hc0 : l0.length ≤ c0)
  (hp : ∀ (j : Nat) (x : ByteArray) (b : Bool) (W : World), Below w.heap.size w W → rule j x = some b → Calls Try.prog g (#[.string x] ++ lb) W fun e w' => e = .returned (.bool b) ∧ Below W.heap.size W w')
  (h : slices_ContainsFunc_string_string.f rule k l0 = some r) :
  Calls Try.prog 61 #[.slice A0 l0.length c0, .func (.func g) #[] lb] w fun e w' => e = .returned (.bool r) ∧ Below w.heap.size w w' := by
 unfold slices_ContainsFunc_string_string.f at h
 obtain ⟨t, A1, h⟩ := Option.bind_eq_some_iff.mp h
 obtain rfl := Option.some.inj h
 clear h
 have HC := aM (slices_IndexFunc_string_string.calls g lb eg rule k A0 c0 l0 t w hr0 hc0 hp A1)
 clear A1 hp hr0 hc0
 go_enter Try.func61, Try.ntmps61
 go_wp2_with (first | (go_at_call 66; (with_reducible refine HC.out.mono ?_); rintro e w1 ⟨rfl, hb⟩))
 go_ret
 exact ⟨by first | rfl | simp, hb⟩

/-! ### impl_Bolts_good_1: function 62 (told by hand) -/
/-- The function value of impl.Bolts.good: whether a text is no allowed state. -/
def impl_Bolts_good_1.rule (l0 : List Int) (l1 : List S77) (k : Nat) (s : ByteArray) : Option Bool := (impl_Bolts_isState.f k l0 l1 s).bind fun t => if t = true then ((impl_Bolts_allowed.f k l0 l1 s).bind fun a => some (!a)) else some true
theorem impl_Bolts_good_1.rule_mono (l0 : List Int) (l1 : List S77) : ∀ s n, LeO (impl_Bolts_good_1.rule l0 l1 n s) (impl_Bolts_good_1.rule l0 l1 (n + 1) s) := fun s n =>
 LeO.bind (impl_Bolts_isState.mono _ _ _ _) (fun _ => LeO.ite (LeO.bind (impl_Bolts_allowed.mono _ _ _ _) (fun _ => LeO.refl _)) (LeO.refl _))
set_option maxHeartbeats 8000000 in
set_option maxRecDepth 100000 in
theorem impl_Bolts_good_1.calls (B : Nat) (A0 : Option Addr) (c0 : Nat) (l0 : List Int) (A1 : Option Addr) (c1 : Nat) (l1 : List S77) (k : Nat) (s : ByteArray) (b : Bool) (w : World) (hbk : w.heap[B]? = some (.cells #[.slice A0 l0.length c0, .slice A1 l1.length c1] 31 (0, 0)))
  (hr0 : Kd.C (Kd.int .i64) w A0 l0.length l0) (hc0 : l0.length ≤ c0) (hr1 : Kd.C k77 w A1 l1.length l1) (hc1 : l1.length ≤ c1) (h : impl_Bolts_good_1.rule l0 l1 k s = some b) :
  Calls Try.prog 62 (#[.string s] ++ #[.pointer (some ⟨B, 0, none⟩)]) w fun e w' => e = .returned (.bool b) ∧ Below w.heap.size w w' := by
 show Calls Try.prog 62 #[.string s, .pointer (some ⟨B, 0, none⟩)] w _
 have hu1 := Try.underlying31
 unfold impl_Bolts_good_1.rule at h
 obtain ⟨t, A1_, h⟩ := Option.bind_eq_some_iff.mp h
 have HR0 := aM hr0
 have HR1 := aM hr1
 have HA := aM A1_
 have hz0 : w.cell? ⟨B, 0, none⟩ = some (.slice A0 l0.length c0) := (blk_cell hbk 0).trans rfl
 have hz1 : w.cell? ⟨B, 1, none⟩ = some (.slice A1 l1.length c1) := (blk_cell hbk 1).trans rfl
 have HBK := aM hbk
 clear hr0 hr1 A1_ hbk
 cases t with
 | false =>
  rw [if_neg (by simp)] at h
  obtain rfl := Option.some.inj h
  clear h
  go_enter Try.func62, Try.ntmps62
  go_wp2_with (first | (go_at_call 63; (with_reducible refine (impl_Bolts_isState.calls k A0 c0 l0 A1 c1 l1 s false w HR0.out hc0 HR1.out hc1 HA.out).mono ?_); rintro e w6 ⟨rfl, hb⟩; have HB6 := aM hb; clear hb))
  go_ret
  exact ⟨rfl, HB6.out⟩
 | true =>
  rw [if_pos rfl] at h
  obtain ⟨a, A2_, h⟩ := Option.bind_eq_some_iff.mp h
  obtain rfl := Option.some.inj h
  clear h
  have HA2 := aM A2_
  clear A2_
  go_enter Try.func62, Try.ntmps62
  go_wp2_with (first | (go_at_call 63; (with_reducible refine (impl_Bolts_isState.calls k A0 c0 l0 A1 c1 l1 s true w HR0.out hc0 HR1.out hc1 HA.out).mono ?_); rintro e w6 ⟨rfl, hb⟩; have HB6 := aM hb; have BK6 := blk_below (g := B) (o := .cells #[.slice A0 l0.length c0, .slice A1 l1.length c1] 31 (0, 0)) HBK.out hb; have hz2 : w6.cell? ⟨B, 0, none⟩ = some (.slice A0 l0.length c0) := (blk_cell BK6 0).trans rfl; have hz3 : w6.cell? ⟨B, 1, none⟩ = some (.slice A1 l1.length c1) := (blk_cell BK6 1).trans rfl; clear hb BK6) | (go_at_call 55; (with_reducible refine (impl_Bolts_allowed.calls k A0 c0 l0 A1 c1 l1 s a w6 (Kd.C_below HR0.out HB6.out) hc0 (Kd.C_below HR1.out HB6.out) hc1 HA2.out).mono ?_); rintro e w7 ⟨rfl, hb⟩; have HB7 := aM (below_step HB6.out hb); clear hb))
  go_ret
  exact ⟨rfl, HB7.out⟩

/-! ### impl_Bolts_good: function 34 (told by hand) -/
def impl_Bolts_good.f (k : Nat) (l0_0 : List Int) (l0_1 : List S77) (l1 : List ByteArray) : Option Bool := (impl_AreBolts.f k l0_0 l0_1).bind fun t => if t = true then ((slices_ContainsFunc_string_string.f (impl_Bolts_good_1.rule l0_0 l0_1) k l1).bind fun b => some (!b)) else some false
theorem impl_Bolts_good.mono : ∀ a0 a1 a2 k, LeO (impl_Bolts_good.f k a0 a1 a2) (impl_Bolts_good.f (k + 1) a0 a1 a2) := fun a0 a1 a2 k =>
 LeO.bind (impl_AreBolts.mono _ _ _) (fun _ => LeO.ite (LeO.bind (slices_ContainsFunc_string_string.mono (impl_Bolts_good_1.rule_mono a0 a1) a2 k) (fun _ => LeO.refl _)) (LeO.refl _))
set_option maxHeartbeats 8000000 in
set_option maxRecDepth 100000 in
theorem impl_Bolts_good.calls (k : Nat) (A0_0 : Option Addr) (c0_0 : Nat) (l0_0 : List Int) (A0_1 : Option Addr) (c0_1 : Nat) (l0_1 : List (S77)) (A1 : Option Addr) (c1 : Nat) (l1 : List ByteArray) (r : Bool) (w : World) (hr0_0 : Kd.C (Kd.int .i64) w A0_0 l0_0.length l0_0) (hc0_0 : l0_0.length ≤ c0_0) (hr0_1 : Kd.C k77 w A0_1 l0_1.length l0_1) (hc0_1 : l0_1.length ≤ c0_1) (hr1 : Kd.C Kd.string w A1 l1.length l1) (hc1 : l1.length ≤ c1) (h : impl_Bolts_good.f k l0_0 l0_1 l1 = some r) :
  Calls Try.prog 34 #[.agg #[.slice A0_0 l0_0.length c0_0, .slice A0_1 l0_1.length c0_1], .slice A1 l1.length c1] w fun e w' => e = .returned (.bool r) ∧ Below w.heap.size w w' := by
 have hmf : ∀ (fn : Fn) (first cap : Array Value) (w : World), (Instr.makeFunc fn first cap).run Try.prog w = .ok (.func fn first cap) w := fun _ _ _ _ => rfl
 have hu1 := Try.underlying31
 unfold impl_Bolts_good.f at h
 obtain ⟨t, A1_, h⟩ := Option.bind_eq_some_iff.mp h
 have HR0 := aM hr0_0
 have HR1 := aM hr0_1
 have HR2 := aM hr1
 have HC0 := aM hc0_0
 have HC1 := aM hc0_1
 have HC2 := aM hc1
 have HA := aM A1_
 clear hr0_0 hr0_1 hr1 hc0_0 hc0_1 hc1 A1_
 cases t with
 | false =>
  rw [if_neg (by simp)] at h
  obtain rfl := Option.some.inj h
  clear h
  go_enter Try.func34, Try.ntmps34
  go_wp2_with (first | ((with_reducible refine gate_dst (N := 2) rfl ?_); refine box_event ?hg (N := 2) ?hd (cs := #[.slice A0_0 l0_0.length c0_0, .slice A0_1 l0_1.length c0_1]) (t := 31) ?hr ?_; (case hd => rfl); (case hg => rfl); (case hr => go_simp); intro gb hg w5 hbox hb; have HB := aM hb; have hz0 : w5.cell? ⟨gb, 0, none⟩ = some (.slice A0_0 l0_0.length c0_0) := (blk_cell hbox 0).trans rfl; have hz1 : w5.cell? ⟨gb, 1, none⟩ = some (.slice A0_1 l0_1.length c0_1) := (blk_cell hbox 1).trans rfl; clear hb hbox hg) | (go_at_call 25; (with_reducible refine (impl_AreBolts.calls k A0_0 c0_0 l0_0 A0_1 c0_1 l0_1 false w5 (Kd.C_below HR0.out HB.out) HC0.out (Kd.C_below HR1.out HB.out) HC1.out HA.out).mono ?_); rintro e w6 ⟨rfl, hb⟩; have HB6 := aM (below_step HB.out hb); clear hb))
  go_ret
  exact ⟨rfl, HB6.out⟩
 | true =>
  rw [if_pos rfl] at h
  obtain ⟨b, A2_, h⟩ := Option.bind_eq_some_iff.mp h
  obtain rfl := Option.some.inj h
  clear h
  have HA2 := aM A2_
  clear A2_
  go_enter Try.func34, Try.ntmps34
  go_wp2_with (first | ((with_reducible refine gate_dst (N := 2) rfl ?_); refine box_event ?hg (N := 2) ?hd (cs := #[.slice A0_0 l0_0.length c0_0, .slice A0_1 l0_1.length c0_1]) (t := 31) ?hr ?_; (case hd => rfl); (case hg => rfl); (case hr => go_simp); intro gb hg w5 hbox hb; have HB := aM hb; have BK := aM hbox; have hz0 : w5.cell? ⟨gb, 0, none⟩ = some (.slice A0_0 l0_0.length c0_0) := (blk_cell hbox 0).trans rfl; have hz1 : w5.cell? ⟨gb, 1, none⟩ = some (.slice A0_1 l0_1.length c0_1) := (blk_cell hbox 1).trans rfl; clear hb hbox hg) | (go_at_call 25; (with_reducible refine (impl_AreBolts.calls k A0_0 c0_0 l0_0 A0_1 c0_1 l0_1 true w5 (Kd.C_below HR0.out HB.out) HC0.out (Kd.C_below HR1.out HB.out) HC1.out HA.out).mono ?_); rintro e w6 ⟨rfl, hb⟩; have HB6 := aM (below_step HB.out hb); have BK6 := aM (blk_below (g := gb) (o := .cells #[.slice A0_0 l0_0.length c0_0, .slice A0_1 l0_1.length c0_1] 31 (0, 0)) BK.out hb); clear hb) | (go_at_call 61; (with_reducible refine (slices_ContainsFunc_string_string.calls 62 #[.pointer (some ⟨gb, 0, none⟩)] (Go.Proofs.enters_of Try.func62 (by kernel_rfl) rfl) (impl_Bolts_good_1.rule l0_0 l0_1) k A1 c1 l1 b w6 (Kd.C_below HR2.out HB6.out) HC2.out (fun j x b W' hb' hj => impl_Bolts_good_1.calls gb A0_0 c0_0 l0_0 A0_1 c0_1 l0_1 j x b W' (blk_below (g := gb) (o := .cells #[.slice A0_0 l0_0.length c0_0, .slice A0_1 l0_1.length c0_1] 31 (0, 0)) BK6.out hb') (Kd.C_below (Kd.C_below HR0.out HB6.out) hb') HC0.out (Kd.C_below (Kd.C_below HR1.out HB6.out) hb') HC1.out hj) HA2.out).mono ?_); rintro e w7 ⟨rfl, hb⟩; have HB7 := aM (below_step HB6.out hb); clear hb))
  go_ret
  exact ⟨rfl, HB7.out⟩

/-! ### impl_FirstSlides: function 11 (told by hand) -/
mutual
def impl_FirstSlides.l0 (l0_0 : List Int) (l0_1 : List S77) (f : ByteArray → Option Int) (tb : ByteArray) : Nat → ByteArray → List S62 → Option (List S62 × Bool)
 | 0, _, _ => none
 | k + 1, s, x => if s.toList = tb.toList then some (x, true) else ((impl_Bolts_slides.f k l0_0 l0_1 s).bind fun ms => impl_FirstSlides.l1 l0_0 l0_1 f tb k s x ms 0)
def impl_FirstSlides.l1 (l0_0 : List Int) (l0_1 : List S77) (f : ByteArray → Option Int) (tb : ByteArray) : Nat → ByteArray → List S62 → List S62 → Int → Option (List S62 × Bool)
 | 0, _, _, _, _ => none
 | k + 1, s, x, ms, i => if i < (ms.length : Int) then (if 0 ≤ i then ((impl_Bolts_slid.f k l0_0 l0_1 s ((rd_T62 ms i).f0) ((rd_T62 ms i).f1)).bind fun t => if s.size ≤ maxLen ∧ t.1.size ≤ maxLen ∧ x.length < 8796093022208 then (if (f t.1).getD 0 = wrap64 ((f s).getD 0 - 1) then impl_FirstSlides.l0 l0_0 l0_1 f tb k t.1 (x ++ [rd_T62 ms i]) else impl_FirstSlides.l1 l0_0 l0_1 f tb k s x ms (wrap64 (i + 1))) else none) else none) else impl_FirstSlides.l0 l0_0 l0_1 f tb k s x
end
def impl_FirstSlides.f (k : Nat) (l0_0 : List Int) (l0_1 : List S77) (a1 a2 : ByteArray) : Option (List S62 × Bool) :=
 (impl_Bolts_good.f k l0_0 l0_1 [a1, a2]).bind fun t => if t = true then (if a1.size ≤ maxLen ∧ a2.size ≤ maxLen then ((impl_Bolts_search.f k l0_0 l0_1 a2).bind fun q => if (q.2.1 a1).isSome = true then impl_FirstSlides.l0 l0_0 l0_1 q.2.1 a2 k a1 [] else some ([], false)) else none) else some ([], false)
theorem impl_FirstSlides.mono_l (l0_0 : List Int) (l0_1 : List S77) (f : ByteArray → Option Int) (tb : ByteArray) : ∀ k, (∀ s x, LeO (impl_FirstSlides.l0 l0_0 l0_1 f tb k s x) (impl_FirstSlides.l0 l0_0 l0_1 f tb (k + 1) s x)) ∧ (∀ s x ms i, LeO (impl_FirstSlides.l1 l0_0 l0_1 f tb k s x ms i) (impl_FirstSlides.l1 l0_0 l0_1 f tb (k + 1) s x ms i))
 | 0 => ⟨fun _ _ r h => by simp [impl_FirstSlides.l0] at h, fun _ _ _ _ r h => by simp [impl_FirstSlides.l1] at h⟩
 | k + 1 => by
  obtain ⟨ih0, ih1⟩ := impl_FirstSlides.mono_l l0_0 l0_1 f tb k
  refine ⟨fun s x => ?_, fun s x ms i => ?_⟩
  ·unfold impl_FirstSlides.l0
   exact LeO.ite (LeO.refl _) (LeO.bind (impl_Bolts_slides.mono _ _ _ _) (fun _ => ih1 _ _ _ _))
  ·unfold impl_FirstSlides.l1
   exact LeO.ite (LeO.ite (LeO.bind (impl_Bolts_slid.mono _ _ _ _ _ _) (fun _ => LeO.ite (LeO.ite (ih0 _ _) (ih1 _ _ _ _)) (LeO.none _))) (LeO.none _)) (ih0 _ _)
theorem impl_FirstSlides.mono : ∀ a0 a1 a2 a3 k, LeO (impl_FirstSlides.f k a0 a1 a2 a3) (impl_FirstSlides.f (k + 1) a0 a1 a2 a3) := fun _ _ _ _ k =>
 LeO.bind (impl_Bolts_good.mono _ _ _ _) (fun _ => LeO.ite (LeO.ite (LeO.bind (impl_Bolts_search.mono _ _ _ _) (fun _ => LeO.ite ((impl_FirstSlides.mono_l _ _ _ _ k).1 _ _) (LeO.refl _))) (LeO.refl _)) (LeO.refl _))
set_option maxHeartbeats 8000000 in
set_option maxRecDepth 100000 in
theorem impl_FirstSlides.calls (k : Nat) (A0_0 : Option Addr) (c0_0 : Nat) (l0_0 : List Int) (A0_1 : Option Addr) (c0_1 : Nat) (l0_1 : List (S77)) (a1 : ByteArray) (a2 : ByteArray) (r1 : List (S62)) (r2 : Bool) (w : World) (hr0_0 : Kd.C (Kd.int .i64) w A0_0 l0_0.length l0_0) (hc0_0 : l0_0.length ≤ c0_0) (hr0_1 : Kd.C k77 w A0_1 l0_1.length l0_1) (hc0_1 : l0_1.length ≤ c0_1) (h : impl_FirstSlides.f k l0_0 l0_1 a1 a2 = some (r1, r2)) :
  Calls Try.prog 11 #[.agg #[.slice A0_0 l0_0.length c0_0, .slice A0_1 l0_1.length c0_1], .string a1, .string a2] w fun e w' => ∃ v0_ : Value, e = .returned (.tuple #[v0_, .bool r2]) ∧ Kd.R k62 62 w' w.heap.size (fun _ => True) v0_ r1 ∧ Below w.heap.size w w' := by
 have hu1 := Try.underlying31
 have hu2 := Try.underlying69
 have hu3 := Try.underlying62
 have HR0 := aM hr0_0
 have HC0 := aM hc0_0
 have HR1 := aM hr0_1
 have HC1 := aM hc0_1
 clear hr0_0 hc0_0 hr0_1 hc0_1
 unfold impl_FirstSlides.f at h
 obtain ⟨ys, hys⟩ : ∃ y_ : List ByteArray, y_ = ([a1, a2] : List ByteArray) := ⟨_, rfl⟩
 rw [← hys] at h
 have NY := aM hys
 clear hys
 obtain ⟨t, G_, h⟩ := Option.bind_eq_some_iff.mp h
 have HG := aM G_
 clear G_
 cases t with
 | false =>
  rw [if_neg (by simp)] at h
  simp only [Option.some.injEq, Prod.mk.injEq] at h
  obtain ⟨rfl, rfl⟩ := h
  go_enter Try.func11, Try.ntmps11
  go_wp2_with (first | ((with_reducible refine gate_dst (N := 3) rfl ?_); refine box_event ?hg (N := 3) ?hd (cs := #[.slice A0_0 l0_0.length c0_0, .slice A0_1 l0_1.length c0_1]) (t := 31) ?hr ?_; (case hd => rfl); (case hg => rfl); (case hr => go_simp); intro gb hg w6 hbox hb; have HB := aM hb; have BK := aM hbox; clear hb hbox hg; have hz0 : w6.cell? ⟨gb, 0, none⟩ = some (.slice A0_0 l0_0.length c0_0) := (blk_cell BK.out 0).trans rfl; have hz1 : w6.cell? ⟨gb, 1, none⟩ = some (.slice A0_1 l0_1.length c0_1) := (blk_cell BK.out 1).trans rfl) | ((with_reducible refine gate_dst (N := 19) rfl ?_); refine Kd.R_lit Kd.string _ 9 ?hg (N := 19) ?hd (xs := ([a1, a2] : List ByteArray)) (inner := [.string a1, .string a2]) (ok := fun _ => True) (okp := fun _ => True) ?hr ?hp (fun _ hk => hk) trivial (Below.refl _ _) (Nat.le_refl _) (by simp) ?_; (case hd => rfl); (case hg => rfl); (case hr => go_simp); (case hp => exact (Reps.one (show Kd.M Kd.string _ _ _ a1 [.string a1] from rfl) (Reps.one (show Kd.M Kd.string _ _ _ a2 [.string a2] from rfl) (Reps.none _ _)))); intro v8 w8 ho hb hg_ hnew_; clear hg_ hnew_; rw [← NY.out] at ho; have HO := aM (Kd.R_lower ho (below_size HB.out)); have n1_ := aM (blk_below (g := gb) (o := .cells #[.slice A0_0 l0_0.length c0_0, .slice A0_1 l0_1.length c0_1] 31 (0, 0)) BK.out hb); have n2_ := aM (below_step HB.out hb); clear BK HB hb ho; have BK := n1_; have HB := n2_; clear n1_ n2_; obtain ⟨Ao, co, eo⟩ := Kd.R_slice HO.out; subst eo) | ((with_reducible refine gate_callee (f := 34) rfl ?_); refine goesL_ (some 20) rfl rfl Try.func34 (by kernel_rfl) rfl #[.agg #[.slice A0_0 l0_0.length c0_0, .slice A0_1 l0_1.length c0_1], .slice Ao ys.length co] rfl (by simp only [mA, mB, mC]; all_goals rfl) ?_; (with_reducible refine (impl_Bolts_good.calls k _ _ l0_0 _ _ l0_1 _ _ ys false _ ?side1 ?side2 ?side3 ?side4 ?side5 ?side6 HG.out).mono ?_); (case side1 => exact Kd.C_below HR0.out HB.out); (case side2 => exact HC0.out); (case side3 => exact Kd.C_below HR1.out HB.out); (case side4 => exact HC1.out); (case side5 => exact (Kd.R_reads' HO.out).2.2); (case side6 => exact (Kd.R_reads' HO.out).2.1); rintro e w11 ⟨rfl, hb⟩; refine ⟨_, rfl, ?_⟩; have n1_ := aM (blk_below (g := gb) (o := .cells #[.slice A0_0 l0_0.length c0_0, .slice A0_1 l0_1.length c0_1] 31 (0, 0)) BK.out hb); have n2_ := aM (below_step HB.out hb); clear BK HB hb HO; have BK := n1_; have HB := n2_; clear n1_ n2_; have hy0 : w11.cell? ⟨gb, 0, none⟩ = some (.slice A0_0 l0_0.length c0_0) := (blk_cell BK.out 0).trans rfl; have hy1 : w11.cell? ⟨gb, 1, none⟩ = some (.slice A0_1 l0_1.length c0_1) := (blk_cell BK.out 1).trans rfl))
  go_ret2
  exact ⟨_, rfl, Kd.R_nil _ _ _ _ _, HB.out⟩
 | true =>
  rw [if_pos rfl] at h
  by_cases s1 : a1.size ≤ maxLen ∧ a2.size ≤ maxLen
  ·rw [if_pos s1] at h
   have HS := aM (show (a1.size ≤ maxLen ∧ a2.size ≤ maxLen) ∧ True from ⟨s1, trivial⟩)
   clear s1
   obtain ⟨q, Q_, h⟩ := Option.bind_eq_some_iff.mp h
   have HQ := aM Q_
   clear Q_
   obtain ⟨n, hn⟩ : ∃ n : Int, (q.2.1 a1).getD 0 = n := ⟨_, rfl⟩
   have N1 := aM hn
   clear hn
   by_cases z1 : (q.2.1 a1).isSome = true
   ·rw [if_pos z1] at h
    have N2 := aM z1
    have H' := aM h
    clear z1 h
    go_enter Try.func11, Try.ntmps11
    go_wp2_with (first | ((with_reducible refine gate_dst (N := 3) rfl ?_); refine box_event ?hg (N := 3) ?hd (cs := #[.slice A0_0 l0_0.length c0_0, .slice A0_1 l0_1.length c0_1]) (t := 31) ?hr ?_; (case hd => rfl); (case hg => rfl); (case hr => go_simp); intro gb hg w6 hbox hb; have HB := aM hb; have BK := aM hbox; clear hb hbox hg; have hz0 : w6.cell? ⟨gb, 0, none⟩ = some (.slice A0_0 l0_0.length c0_0) := (blk_cell BK.out 0).trans rfl; have hz1 : w6.cell? ⟨gb, 1, none⟩ = some (.slice A0_1 l0_1.length c0_1) := (blk_cell BK.out 1).trans rfl) | ((with_reducible refine gate_dst (N := 19) rfl ?_); refine Kd.R_lit Kd.string _ 9 ?hg (N := 19) ?hd (xs := ([a1, a2] : List ByteArray)) (inner := [.string a1, .string a2]) (ok := fun _ => True) (okp := fun _ => True) ?hr ?hp (fun _ hk => hk) trivial (Below.refl _ _) (Nat.le_refl _) (by simp) ?_; (case hd => rfl); (case hg => rfl); (case hr => go_simp); (case hp => exact (Reps.one (show Kd.M Kd.string _ _ _ a1 [.string a1] from rfl) (Reps.one (show Kd.M Kd.string _ _ _ a2 [.string a2] from rfl) (Reps.none _ _)))); intro v8 w8 ho hb hg_ hnew_; clear hg_ hnew_; rw [← NY.out] at ho; have HO := aM (Kd.R_lower ho (below_size HB.out)); have n1_ := aM (blk_below (g := gb) (o := .cells #[.slice A0_0 l0_0.length c0_0, .slice A0_1 l0_1.length c0_1] 31 (0, 0)) BK.out hb); have n2_ := aM (below_step HB.out hb); clear BK HB hb ho; have BK := n1_; have HB := n2_; clear n1_ n2_; obtain ⟨Ao, co, eo⟩ := Kd.R_slice HO.out; subst eo) | ((with_reducible refine gate_callee (f := 34) rfl ?_); refine goesL_ (some 20) rfl rfl Try.func34 (by kernel_rfl) rfl #[.agg #[.slice A0_0 l0_0.length c0_0, .slice A0_1 l0_1.length c0_1], .slice Ao ys.length co] rfl (by simp only [mA, mB, mC]; all_goals rfl) ?_; (with_reducible refine (impl_Bolts_good.calls k _ _ l0_0 _ _ l0_1 _ _ ys true _ ?side1 ?side2 ?side3 ?side4 ?side5 ?side6 HG.out).mono ?_); (case side1 => exact Kd.C_below HR0.out HB.out); (case side2 => exact HC0.out); (case side3 => exact Kd.C_below HR1.out HB.out); (case side4 => exact HC1.out); (case side5 => exact (Kd.R_reads' HO.out).2.2); (case side6 => exact (Kd.R_reads' HO.out).2.1); rintro e w11 ⟨rfl, hb⟩; refine ⟨_, rfl, ?_⟩; have n1_ := aM (blk_below (g := gb) (o := .cells #[.slice A0_0 l0_0.length c0_0, .slice A0_1 l0_1.length c0_1] 31 (0, 0)) BK.out hb); have n2_ := aM (below_step HB.out hb); clear BK HB hb HO; have BK := n1_; have HB := n2_; clear n1_ n2_; have hy0 : w11.cell? ⟨gb, 0, none⟩ = some (.slice A0_0 l0_0.length c0_0) := (blk_cell BK.out 0).trans rfl; have hy1 : w11.cell? ⟨gb, 1, none⟩ = some (.slice A0_1 l0_1.length c0_1) := (blk_cell BK.out 1).trans rfl) | ((with_reducible refine gate_callee (f := 28) rfl ?_); refine goesL_ (some 24) rfl rfl Try.func28 (by kernel_rfl) rfl #[.agg #[.slice A0_0 l0_0.length c0_0, .slice A0_1 l0_1.length c0_1], .string a2] rfl (by simp only [mA, mB, mC]; all_goals rfl) ?_; (with_reducible refine (impl_Bolts_search.calls k _ _ l0_0 _ _ l0_1 a2 q _ ?side1 ?side2 ?side3 ?side4 ?side5 HQ.out).mono ?_); (case side1 => exact Kd.C_below HR0.out HB.out); (case side2 => exact HC0.out); (case side3 => exact Kd.C_below HR1.out HB.out); (case side4 => exact HC1.out); (case side5 => exact HS.out.1.2); rintro e w13 ⟨gr, rfl, b1, b2, v, c, hS⟩; refine ⟨_, rfl, ?_⟩; obtain ⟨Av, cv, ev⟩ := Kd.R_slice hS.lst; subst ev; have SS := aM (hS.rebase HB.out); have BKs := aM (blk_below (g := gb) (o := .cells #[.slice A0_0 l0_0.length c0_0, .slice A0_1 l0_1.length c0_1] 31 (0, 0)) BK.out hS.bel); clear hS; have hx0 : w13.cell? ⟨gr, 0, none⟩ = some (.slice Av q.1.length cv) := (blk_cell SS.out.blk 0).trans rfl; have hx1 : w13.cell? ⟨gr, 1, none⟩ = some (.map (some b1)) := (blk_cell SS.out.blk 1).trans rfl; have hx2 : w13.cell? ⟨gr, 2, none⟩ = some (.map (some b2)) := (blk_cell SS.out.blk 2).trans rfl) | (at_lookup; refine MapS.look2_v SS.out.far N1.out N2.out HS.out.1.1 rfl _ _ rfl rfl rfl ?_))
    go_loopg [1, 11] k (fun kq v1 v11 w' => ∃ (s : ByteArray) (x : List S62), v1 = .string s ∧ Aside0 (impl_FirstSlides.l0 l0_0 l0_1 q.2.1 a2 kq s x = some (r1, r2)) ∧ Aside0 (kq ≤ k) ∧ Aside0 (Kd.R k62 62 w' w.heap.size (fun _ => True) v11 x) ∧ Aside0 (impl_searched.St w w' gr b1 b2 (fun _ => True) (.slice Av q.1.length cv) q.1 q.2.1 q.2.2 c) ∧ Aside0 (w'.heap[gb]? = some (.cells #[.slice A0_0 l0_0.length c0_0, .slice A0_1 l0_1.length c0_1] 31 (0, 0))))
    case atStart => exact ⟨a1, [], rfl, H', ⟨Nat.le_refl _⟩, ⟨Kd.R_nil _ _ _ _ _⟩, SS, BKs⟩
    case round =>
     clear H' SS BKs hx0 hx1 hx2
     obtain ⟨s, x, rfl, HA, HK1, HX, SS, BKs⟩ := hrel
     cases gk with
     | zero => exact absurd HA.out (by simp [impl_FirstSlides.l0])
     | succ k1 =>
      have H := HA.out
      clear HA
      simp only [impl_FirstSlides.l0] at H
      by_cases c1 : s.toList = a2.toList
      ·rw [if_pos c1] at H
       have c1b : (s.toList == a2.toList) = true := beq_iff_eq.mpr c1
       clear c1
       simp only [Option.some.injEq, Prod.mk.injEq] at H
       obtain ⟨rfl, rfl⟩ := H
       go_wp2
       go_ret2
       exact ⟨_, rfl, HX.out, SS.out.bel⟩
      ·rw [if_neg c1] at H
       have c1b : (s.toList == a2.toList) = false := beq_eq_false_iff_ne.mpr c1
       clear c1
       obtain ⟨ms, M_, H⟩ := Option.bind_eq_some_iff.mp H
       have HM0 := aM M_
       have H' := aM H
       clear M_ H
       have hcz0 : wr.cell? ⟨gb, 0, none⟩ = some (.slice A0_0 l0_0.length c0_0) := (blk_cell BKs.out 0).trans rfl
       have hcz1 : wr.cell? ⟨gb, 1, none⟩ = some (.slice A0_1 l0_1.length c0_1) := (blk_cell BKs.out 1).trans rfl
       go_wp2_with (first | ((with_reducible refine gate_callee (f := 35) rfl ?_); refine goesL_ (some 41) rfl rfl Try.func35 (by kernel_rfl) rfl #[.agg #[.slice A0_0 l0_0.length c0_0, .slice A0_1 l0_1.length c0_1], .string s] rfl (by simp only [mA, mB, mC]; all_goals rfl) ?_; (with_reducible refine (impl_Bolts_slides.calls k1 _ _ l0_0 _ _ l0_1 s ms _ ?side1 ?side2 ?side3 ?side4 HM0.out).mono ?_); (case side1 => exact Kd.C_below HR0.out SS.out.bel); (case side2 => exact HC0.out); (case side3 => exact Kd.C_below HR1.out SS.out.bel); (case side4 => exact HC1.out); rintro e w6 ⟨vm, rfl, hm, hb⟩; refine ⟨_, rfl, ?_⟩; obtain ⟨Am, cm, em⟩ := Kd.R_slice hm; subst em; have HM := aM (Kd.R_lower hm SS.out.bel.size); have n0 := aM (Kd.R_below HX.out hb); have n1 := aM (SS.out.below hb); have n2 := aM (blk_below (g := gb) (o := .cells #[.slice A0_0 l0_0.length c0_0, .slice A0_1 l0_1.length c0_1] 31 (0, 0)) BKs.out hb); clear HX SS BKs hm hb; have HX := n0; have SS := n1; have BKs := n2; clear n0 n1 n2))
       clear hcz0 hcz1
       go_loopg [1, 11, 43] k1 (fun kq v1 v11 v43 w' => ∃ (s : ByteArray) (x : List S62) (i : Int), v1 = .string s ∧ v43 = .int .i64 i ∧ Aside0 (impl_FirstSlides.l1 l0_0 l0_1 q.2.1 a2 kq s x ms i = some (r1, r2)) ∧ Aside0 (kq ≤ k1) ∧ Aside0 (Kd.R k62 62 w' w.heap.size (fun _ => True) v11 x) ∧ Aside0 (Kd.R k62 62 w' w.heap.size (fun _ => True) (.slice Am ms.length cm) ms) ∧ Aside0 (impl_searched.St w w' gr b1 b2 (fun _ => True) (.slice Av q.1.length cv) q.1 q.2.1 q.2.2 c) ∧ Aside0 (w'.heap[gb]? = some (.cells #[.slice A0_0 l0_0.length c0_0, .slice A0_1 l0_1.length c0_1] 31 (0, 0))))
       case atStart => exact ⟨s, x, 0, rfl, rfl, H', ⟨Nat.le_refl _⟩, HX, HM, SS, BKs⟩
       case round =>
        clear H' HX HM SS BKs HM0
        obtain ⟨s, x, i, rfl, rfl, HA, HK2, HX, HM, SS, BKs⟩ := hrel
        cases gk with
        | zero => exact absurd HA.out (by simp [impl_FirstSlides.l1])
        | succ k2 =>
         have H := HA.out
         clear HA
         simp only [impl_FirstSlides.l1] at H
         by_cases c4 : i < (ms.length : Int)
         ·rw [if_pos c4] at H
          have c4b0 : decide (i < (ms.length : Int)) = true := decide_eq_true c4
          by_cases c5 : 0 ≤ i
          ·rw [if_pos c5] at H
           have c5b0 : decide (0 ≤ i) = true := decide_eq_true c5
           obtain ⟨⟨t, tb⟩, A2_, H⟩ := Option.bind_eq_some_iff.mp H
           have A2 := aM A2_
           clear A2_
           replace H : (if s.size ≤ maxLen ∧ t.size ≤ maxLen ∧ x.length < 8796093022208 then (if (q.2.1 t).getD 0 = wrap64 ((q.2.1 s).getD 0 - 1) then impl_FirstSlides.l0 l0_0 l0_1 q.2.1 a2 k2 t (x ++ [(rd_T62 ms i)]) else impl_FirstSlides.l1 l0_0 l0_1 q.2.1 a2 k2 s x ms (wrap64 (i + 1))) else none) = some (r1, r2) := H
           by_cases c6 : s.size ≤ maxLen ∧ t.size ≤ maxLen ∧ x.length < 8796093022208
           ·rw [if_pos c6] at H
            have LM := aM c6
            clear c6
            obtain ⟨ad, ea, hx0, hx1⟩ := at_T62 (Kd.R_reads' HM.out).2.2 i c5 c4
            cases ea
            have q4 := eq_true c4
            have q5 := eq_true c5
            clear c4 c5
            obtain ⟨m1, hm1⟩ : ∃ m, (q.2.1 t).getD 0 = m := ⟨_, rfl⟩
            obtain ⟨m2, hm2⟩ : ∃ m, (q.2.1 s).getD 0 = m := ⟨_, rfl⟩
            rw [hm1, hm2] at H
            have NT := aM hm1
            have NS := aM hm2
            clear hm1 hm2
            go_wp2_with (first
             | ((with_reducible refine gate_dst (N := 13) rfl ?_); refine box_event ?hg (N := 13) ?hd (cs := #[.int .i64 0, .int .i64 0]) (t := 62) ?hr ?_; (case hd => rfl); (case hg => rfl); (case hr => go_simp); intro gm hg w14 hbox hb; have HL := aM hb; have GE := aM (show wr.heap.size ≤ gm by rw [hg]; exact Nat.le_refl _); have BKm := aM hbox; have n2 := blk_below (g := gb) (o := .cells #[.slice A0_0 l0_0.length c0_0, .slice A0_1 l0_1.length c0_1] 31 (0, 0)) BKs.out hb; have NB := aM (show gb ≠ gm by rw [hg]; exact Nat.ne_of_lt (blk_lt BKs.out)); have NB2 := aM (show gm ≠ gb from fun e => NB.out e.symm); have hnb := NB2.out; have hnc := NB.out; have hca : w14.cell? ⟨gm, 0, none⟩ = some (.int .i64 0) := (blk_cell BKm.out 0).trans rfl; have hcb : w14.cell? ⟨gm, 1, none⟩ = some (.int .i64 0) := (blk_cell BKm.out 1).trans rfl; have hfa := blk_frozen BKm.out 0; have hfb := blk_frozen BKm.out 1; have hcc : w14.cell? ⟨gb, 0, none⟩ = some (.slice A0_0 l0_0.length c0_0) := (blk_cell n2 0).trans rfl; have hcd : w14.cell? ⟨gb, 1, none⟩ = some (.slice A0_1 l0_1.length c0_1) := (blk_cell n2 1).trans rfl; clear hb hbox hg n2)
             | ((with_reducible refine gate_callee (f := 36) rfl ?_); refine goesL_ (some 51) rfl rfl Try.func36 (by kernel_rfl) rfl #[.agg #[.slice A0_0 l0_0.length c0_0, .slice A0_1 l0_1.length c0_1], .string s, .agg #[.int .i64 (rd_T62 ms i).f0, .int .i64 (rd_T62 ms i).f1]] rfl (by simp only [mA, mB, mC]; all_goals rfl) ?_; have n4 : Aside0 (Below wr.heap.size wr ((w14.setCell ⟨gm, 0, none⟩ (.int .i64 (rd_T62 ms i).f0)).setCell ⟨gm, 1, none⟩ (.int .i64 (rd_T62 ms i).f1))) := ⟨below_set (below_set HL.out GE.out) GE.out⟩; (with_reducible refine (impl_Bolts_slid.calls k2 _ _ l0_0 _ _ l0_1 s (rd_T62 ms i).f0 (rd_T62 ms i).f1 t tb _ ?side1 ?side2 ?side3 ?side4 A2.out).mono ?_); (case side1 => exact Kd.C_below (Kd.C_below HR0.out SS.out.bel) n4.out); (case side2 => exact HC0.out); (case side3 => exact Kd.C_below (Kd.C_below HR1.out SS.out.bel) n4.out); (case side4 => exact HC1.out); rintro e w18 ⟨rfl, hb⟩; refine ⟨_, rfl, ?_⟩; have HW := aM (below_step n4.out hb); have BK8 := aM (blk_below (g := gm) (o := .cells #[.int .i64 (rd_T62 ms i).f0, .int .i64 (rd_T62 ms i).f1] 62 (0, 0)) (blk_put (cs := #[.int .i64 (rd_T62 ms i).f0, .int .i64 0]) (blk_put (cs := #[.int .i64 0, .int .i64 0]) BKm.out 0 _ rfl) 1 _ rfl) hb); clear hb HL n4 hca hcb hcc hcd hfa hfb BKm))
            have n0 := aM (Kd.R_below HX.out HW.out)
            have n1 := aM (SS.out.below HW.out)
            have n2 := aM (blk_below (g := gb) (o := .cells #[.slice A0_0 l0_0.length c0_0, .slice A0_1 l0_1.length c0_1] 31 (0, 0)) BKs.out HW.out)
            have n3 := aM (Kd.R_below HM.out HW.out)
            clear HX SS BKs HM
            have HX := n0
            have SS := n1
            have BKs := n2
            have HM := n3
            clear n0 n1 n2 n3 HW hx0 hx1
            have hy0 : w18.cell? ⟨gm, 0, none⟩ = some (.int .i64 (rd_T62 ms i).f0) := (blk_cell BK8.out 0).trans rfl
            have hy1 : w18.cell? ⟨gm, 1, none⟩ = some (.int .i64 (rd_T62 ms i).f1) := (blk_cell BK8.out 1).trans rfl
            have hz1 : w18.cell? ⟨gr, 1, none⟩ = some (.map (some b1)) := (blk_cell SS.out.blk 1).trans rfl
            have hl1 := MapS.M_look (MapS.M_drew SS.out.far) t LM.out.2.1
            have hl2 := MapS.M_look (MapS.M_drew SS.out.far) s LM.out.1
            rw [NT.out] at hl1
            rw [NS.out] at hl2
            by_cases c7 : m1 = wrap64 (m2 - 1)
            ·rw [if_pos c7] at H
             have c7b : (m1 == wrap64 (m2 - 1)) = true := beq_iff_eq.mpr c7
             clear c7
             have H' := aM H
             clear H
             have m0 := aM (Kd.R_drew HX.out)
             have m1 := aM (SS.out.below (Below.refl _ _).drew)
             have m2 := aM (blk_drew BKs.out)
             have hy2 : w18.drew.cell? ⟨gm, 0, none⟩ = some (.int .i64 (rd_T62 ms i).f0) := (blk_cell (blk_drew BK8.out) 0).trans rfl
             have hy3 : w18.drew.cell? ⟨gm, 1, none⟩ = some (.int .i64 (rd_T62 ms i).f1) := (blk_cell (blk_drew BK8.out) 1).trans rfl
             go_region
             all_goals generalize w18.drew = w19 at m0 m1 m2 hy2 hy3 ⊢
             all_goals clear HX SS BKs HM hy0 hy1 hz1 hl1 hl2
             all_goals have HX := m0
             all_goals have SS := m1
             all_goals have BKs := m2
             all_goals clear m0 m1 m2
             all_goals (go_wp2_with (first | ((with_reducible refine gate_builtin (b := .append) (xs := #[.tmp 68, .tmp 70]) rfl ?_); at_builtin; have S1 := SS.out; have HD := HX.out; have B1 := BKs.out; refine Kd.R_append k62 (w0 := w) w.heap.size rfl (.tmp 68) (.tmp 70) 35 62 (.agg #[(.int .i64 0), (.int .i64 0)]) 16 rfl Try.underlying35 info62 rfl (by decide) (by omega) u11 x (rd_T62 ms i) [.int .i64 (rd_T62 ms i).f0, .int .i64 (rd_T62 ms i).f1] (fun _ => True) (fun _ => False) rfl rfl ?aP (fun _ hk => hk.elim) ?aF ?aO ?aB ?aS ?aL ?_; (case aP => exact k62_mkM _ _ _ (rd_T62 ms i)); (case aB => exact S1.bel); (case aF => exact (fun _ _ => trivial)); (case aO => exact HD); (case aS => exact SS.out.bel.size); (case aL => have := LM.out.2.2; omega); intro v2 w20 ho hb hg hat; have n1 := aM (show impl_searched.St w w20 gr b1 b2 (fun _ => True) (.slice Av q.1.length cv) q.1 q.2.1 q.2.2 c from ⟨Kd.R_mono (Kd.R_over' S1.lst (Kd.R_typed HD) (by decide) hg) (fun _ _ => trivial), blk_grown S1.blk hg (Kd.R_ne HD S1.blk (by decide)), MapS.M_grown S1.far hg (fun e => by obtain ⟨cells, hc⟩ := Kd.R_typed HD _ e.symm; exact MapS.M_apart S1.far hc rfl), MapS.M_grown S1.way hg (fun e => by obtain ⟨cells, hc⟩ := Kd.R_typed HD _ e.symm; exact MapS.M_apart S1.way hc rfl), S1.ge, hb⟩); have n2 := aM (blk_grown (g := gb) (o := .cells #[.slice A0_0 l0_0.length c0_0, .slice A0_1 l0_1.length c0_1] 31 (0, 0)) B1 hg (Kd.R_ne HD B1 (by decide))); have n0 := aM ho; clear HX SS BKs ho hb hg hat S1 HD B1; have HX := n0; have SS := n1; have BKs := n2; clear n0 n1 n2)))
             all_goals (go_roundg k2; (case measure => have := HK1.out; have := HK2.out; omega); (case rel => exact ⟨t, x ++ [(rd_T62 ms i)], rfl, H', ⟨by have := HK1.out; have := HK2.out; omega⟩, ⟨Kd.R_mono HX.out (fun _ _ => trivial)⟩, SS, BKs⟩))
            ·rw [if_neg c7] at H
             have c7b : (m1 == wrap64 (m2 - 1)) = false := beq_eq_false_iff_ne.mpr c7
             clear c7
             have H' := aM H
             clear H
             go_region
             all_goals go_wp2
             all_goals (go_roundg k2; (case measure => have := HK1.out; have := HK2.out; omega); (case rel => exact ⟨s, x, wrap64 (i + 1), rfl, rfl, H', ⟨by have := HK1.out; have := HK2.out; omega⟩, ⟨Kd.R_drew HX.out⟩, ⟨Kd.R_drew HM.out⟩, ⟨SS.out.below (Below.refl _ _).drew⟩, ⟨blk_drew BKs.out⟩⟩))
           ·rw [if_neg c6] at H
            cases H
          ·rw [if_neg c5] at H
           cases H
         ·rw [if_neg c4] at H
          have c4b0 : decide (i < (ms.length : Int)) = false := decide_eq_false c4
          clear c4
          have H' := aM H
          clear H
          go_wp2
          go_roundg k2
          case measure => have := HK1.out; have := HK2.out; omega
          case rel => exact ⟨s, x, rfl, H', ⟨by have := HK1.out; have := HK2.out; omega⟩, HX, SS, BKs⟩
   ·rw [if_neg z1] at h
    have N2 := aM (Bool.eq_false_iff.mpr z1)
    clear z1
    simp only [Option.some.injEq, Prod.mk.injEq] at h
    obtain ⟨rfl, rfl⟩ := h
    go_enter Try.func11, Try.ntmps11
    go_wp2_with (first | ((with_reducible refine gate_dst (N := 3) rfl ?_); refine box_event ?hg (N := 3) ?hd (cs := #[.slice A0_0 l0_0.length c0_0, .slice A0_1 l0_1.length c0_1]) (t := 31) ?hr ?_; (case hd => rfl); (case hg => rfl); (case hr => go_simp); intro gb hg w6 hbox hb; have HB := aM hb; have BK := aM hbox; clear hb hbox hg; have hz0 : w6.cell? ⟨gb, 0, none⟩ = some (.slice A0_0 l0_0.length c0_0) := (blk_cell BK.out 0).trans rfl; have hz1 : w6.cell? ⟨gb, 1, none⟩ = some (.slice A0_1 l0_1.length c0_1) := (blk_cell BK.out 1).trans rfl) | ((with_reducible refine gate_dst (N := 19) rfl ?_); refine Kd.R_lit Kd.string _ 9 ?hg (N := 19) ?hd (xs := ([a1, a2] : List ByteArray)) (inner := [.string a1, .string a2]) (ok := fun _ => True) (okp := fun _ => True) ?hr ?hp (fun _ hk => hk) trivial (Below.refl _ _) (Nat.le_refl _) (by simp) ?_; (case hd => rfl); (case hg => rfl); (case hr => go_simp); (case hp => exact (Reps.one (show Kd.M Kd.string _ _ _ a1 [.string a1] from rfl) (Reps.one (show Kd.M Kd.string _ _ _ a2 [.string a2] from rfl) (Reps.none _ _)))); intro v8 w8 ho hb hg_ hnew_; clear hg_ hnew_; rw [← NY.out] at ho; have HO := aM (Kd.R_lower ho (below_size HB.out)); have n1_ := aM (blk_below (g := gb) (o := .cells #[.slice A0_0 l0_0.length c0_0, .slice A0_1 l0_1.length c0_1] 31 (0, 0)) BK.out hb); have n2_ := aM (below_step HB.out hb); clear BK HB hb ho; have BK := n1_; have HB := n2_; clear n1_ n2_; obtain ⟨Ao, co, eo⟩ := Kd.R_slice HO.out; subst eo) | ((with_reducible refine gate_callee (f := 34) rfl ?_); refine goesL_ (some 20) rfl rfl Try.func34 (by kernel_rfl) rfl #[.agg #[.slice A0_0 l0_0.length c0_0, .slice A0_1 l0_1.length c0_1], .slice Ao ys.length co] rfl (by simp only [mA, mB, mC]; all_goals rfl) ?_; (with_reducible refine (impl_Bolts_good.calls k _ _ l0_0 _ _ l0_1 _ _ ys true _ ?side1 ?side2 ?side3 ?side4 ?side5 ?side6 HG.out).mono ?_); (case side1 => exact Kd.C_below HR0.out HB.out); (case side2 => exact HC0.out); (case side3 => exact Kd.C_below HR1.out HB.out); (case side4 => exact HC1.out); (case side5 => exact (Kd.R_reads' HO.out).2.2); (case side6 => exact (Kd.R_reads' HO.out).2.1); rintro e w11 ⟨rfl, hb⟩; refine ⟨_, rfl, ?_⟩; have n1_ := aM (blk_below (g := gb) (o := .cells #[.slice A0_0 l0_0.length c0_0, .slice A0_1 l0_1.length c0_1] 31 (0, 0)) BK.out hb); have n2_ := aM (below_step HB.out hb); clear BK HB hb HO; have BK := n1_; have HB := n2_; clear n1_ n2_; have hy0 : w11.cell? ⟨gb, 0, none⟩ = some (.slice A0_0 l0_0.length c0_0) := (blk_cell BK.out 0).trans rfl; have hy1 : w11.cell? ⟨gb, 1, none⟩ = some (.slice A0_1 l0_1.length c0_1) := (blk_cell BK.out 1).trans rfl) | ((with_reducible refine gate_callee (f := 28) rfl ?_); refine goesL_ (some 24) rfl rfl Try.func28 (by kernel_rfl) rfl #[.agg #[.slice A0_0 l0_0.length c0_0, .slice A0_1 l0_1.length c0_1], .string a2] rfl (by simp only [mA, mB, mC]; all_goals rfl) ?_; (with_reducible refine (impl_Bolts_search.calls k _ _ l0_0 _ _ l0_1 a2 q _ ?side1 ?side2 ?side3 ?side4 ?side5 HQ.out).mono ?_); (case side1 => exact Kd.C_below HR0.out HB.out); (case side2 => exact HC0.out); (case side3 => exact Kd.C_below HR1.out HB.out); (case side4 => exact HC1.out); (case side5 => exact HS.out.1.2); rintro e w13 ⟨gr, rfl, b1, b2, v, c, hS⟩; refine ⟨_, rfl, ?_⟩; obtain ⟨Av, cv, ev⟩ := Kd.R_slice hS.lst; subst ev; have SS := aM (hS.rebase HB.out); have BKs := aM (blk_below (g := gb) (o := .cells #[.slice A0_0 l0_0.length c0_0, .slice A0_1 l0_1.length c0_1] 31 (0, 0)) BK.out hS.bel); clear hS; have hx0 : w13.cell? ⟨gr, 0, none⟩ = some (.slice Av q.1.length cv) := (blk_cell SS.out.blk 0).trans rfl; have hx1 : w13.cell? ⟨gr, 1, none⟩ = some (.map (some b1)) := (blk_cell SS.out.blk 1).trans rfl; have hx2 : w13.cell? ⟨gr, 2, none⟩ = some (.map (some b2)) := (blk_cell SS.out.blk 2).trans rfl) | (at_lookup; refine MapS.look2_v SS.out.far N1.out N2.out HS.out.1.1 rfl _ _ rfl rfl rfl ?_))
    go_ret2
    exact ⟨_, rfl, Kd.R_nil _ _ _ _ _, SS.out.bel⟩
  ·rw [if_neg s1] at h
   cases h

/-! ### laws_eqSlide: function 37 -/
def laws_eqSlide.f (a0_0 : Int) (a0_1 : Int) (a1_0 : Int) (a1_1 : Int) : Option (Bool) := if a0_0 = a1_0 then (if a0_1 = a1_1 then (some true) else (some false)) else (some false)
set_option maxHeartbeats 8000000 in
set_option maxRecDepth 100000 in
theorem laws_eqSlide.calls (a0_0 : Int) (a0_1 : Int) (a1_0 : Int) (a1_1 : Int) (r : Bool) (w : World) (h : laws_eqSlide.f a0_0 a0_1 a1_0 a1_1 = some r) :
  Calls Try.prog 37 #[.agg #[.int .i64 a0_0, .int .i64 a0_1], .agg #[.int .i64 a1_0, .int .i64 a1_1]] w fun e w' => e = .returned (.bool r) ∧ Below w.heap.size w w' := by
 have hu62 := Try.underlying62
 have HB := aM (Below.refl w.heap.size w)
 have H : (if a0_0 = a1_0 then (if a0_1 = a1_1 then (some true) else (some false)) else (some false)) = some r := h
 clear h
 by_cases c3 : a0_0 = a1_0
 ·rw [if_pos c3] at H
  have c3b0 : (a0_0 == a1_0) = true := beq_iff_eq.mpr c3
  have c3b1 : (a0_0 != a1_0) = false := bne_eq_false_iff_eq.mpr c3
  clear c3
  by_cases c4 : a0_1 = a1_1
  ·rw [if_pos c4] at H
   have c4b0 : (a0_1 == a1_1) = true := beq_iff_eq.mpr c4
   have c4b1 : (a0_1 != a1_1) = false := bne_eq_false_iff_eq.mpr c4
   clear c4
   obtain rfl := Option.some.inj H
   go_enter Try.func37, Try.ntmps37
   go_wp2_with (first | ((with_reducible refine gate_dst (N := 2) rfl ?_); refine box_event ?hg (N := 2) ?hd (cs := #[.int .i64 a0_0, .int .i64 a0_1]) (t := 62) ?hr ?_; (case hd => rfl); (case hg => rfl); (case hr => go_simp); intro gb270 hg w5 hbox hb; have BK270 := aM (hbox); have GW270 := aM ((by rw [hg]; exact (below_size HB.out) : w.heap.size ≤ gb270)); replace HB := aM (below_step HB.out hb); have GE270 := GW270; clear hb hbox hg) | ((with_reducible refine gate_dst (N := 3) rfl ?_); refine box_event ?hg (N := 3) ?hd (cs := #[.int .i64 a1_0, .int .i64 a1_1]) (t := 62) ?hr ?_; (case hd => rfl); (case hg => rfl); (case hr => go_simp); intro gb271 hg w6 hbox hb; have BK271 := aM (hbox); have GW271 := aM ((by rw [hg]; exact (below_size HB.out) : w.heap.size ≤ gb271)); replace HB := aM (below_step HB.out hb); have NB270_271 := aM ((by rw [hg]; exact Nat.ne_of_lt (blk_lt (g := gb270) (o := .cells #[.int .i64 a0_0, .int .i64 a0_1] 62 (0, 0)) BK270.out) : gb270 ≠ gb271)); have NB271_270 := aM ((by rw [hg]; exact Nat.ne_of_gt (blk_lt (g := gb270) (o := .cells #[.int .i64 a0_0, .int .i64 a0_1] 62 (0, 0)) BK270.out) : gb271 ≠ gb270)); replace BK270 := aM (blk_below (g := gb270) (o := .cells #[.int .i64 a0_0, .int .i64 a0_1] 62 (0, 0)) BK270.out hb); have GE271 := GW271; clear hb hbox hg; have hnb7 := NB270_271.out; have hnc7 := NB271_270.out; have hcz8_0 : w6.cell? ⟨gb270, 0, none⟩ = some (.int .i64 a0_0) := (blk_cell BK270.out 0).trans rfl; have hcz8_1 : w6.cell? ⟨gb270, 1, none⟩ = some (.int .i64 a0_1) := (blk_cell BK270.out 1).trans rfl; have hfz8_0 := blk_frozen BK270.out 0; have hfz8_1 := blk_frozen BK270.out 1; have hcz9_0 : w6.cell? ⟨gb271, 0, none⟩ = some (.int .i64 a1_0) := (blk_cell BK271.out 0).trans rfl; have hcz9_1 : w6.cell? ⟨gb271, 1, none⟩ = some (.int .i64 a1_1) := (blk_cell BK271.out 1).trans rfl; have hfz9_0 := blk_frozen BK271.out 0; have hfz9_1 := blk_frozen BK271.out 1))
   go_ret
   exact ⟨rfl, HB.out⟩
  ·rw [if_neg c4] at H
   have c4b0 : (a0_1 == a1_1) = false := beq_eq_false_iff_ne.mpr c4
   have c4b1 : (a0_1 != a1_1) = true := bne_iff_ne.mpr c4
   obtain rfl := Option.some.inj H
   go_enter Try.func37, Try.ntmps37
   go_wp2_with (first | ((with_reducible refine gate_dst (N := 2) rfl ?_); refine box_event ?hg (N := 2) ?hd (cs := #[.int .i64 a0_0, .int .i64 a0_1]) (t := 62) ?hr ?_; (case hd => rfl); (case hg => rfl); (case hr => go_simp); intro gb270 hg w10 hbox hb; have BK270 := aM (hbox); have GW270 := aM ((by rw [hg]; exact (below_size HB.out) : w.heap.size ≤ gb270)); replace HB := aM (below_step HB.out hb); have GE270 := GW270; clear hb hbox hg) | ((with_reducible refine gate_dst (N := 3) rfl ?_); refine box_event ?hg (N := 3) ?hd (cs := #[.int .i64 a1_0, .int .i64 a1_1]) (t := 62) ?hr ?_; (case hd => rfl); (case hg => rfl); (case hr => go_simp); intro gb271 hg w11 hbox hb; have BK271 := aM (hbox); have GW271 := aM ((by rw [hg]; exact (below_size HB.out) : w.heap.size ≤ gb271)); replace HB := aM (below_step HB.out hb); have NB270_271 := aM ((by rw [hg]; exact Nat.ne_of_lt (blk_lt (g := gb270) (o := .cells #[.int .i64 a0_0, .int .i64 a0_1] 62 (0, 0)) BK270.out) : gb270 ≠ gb271)); have NB271_270 := aM ((by rw [hg]; exact Nat.ne_of_gt (blk_lt (g := gb270) (o := .cells #[.int .i64 a0_0, .int .i64 a0_1] 62 (0, 0)) BK270.out) : gb271 ≠ gb270)); replace BK270 := aM (blk_below (g := gb270) (o := .cells #[.int .i64 a0_0, .int .i64 a0_1] 62 (0, 0)) BK270.out hb); have GE271 := GW271; clear hb hbox hg; have hnb12 := NB270_271.out; have hnc12 := NB271_270.out; have hcz13_0 : w11.cell? ⟨gb270, 0, none⟩ = some (.int .i64 a0_0) := (blk_cell BK270.out 0).trans rfl; have hcz13_1 : w11.cell? ⟨gb270, 1, none⟩ = some (.int .i64 a0_1) := (blk_cell BK270.out 1).trans rfl; have hfz13_0 := blk_frozen BK270.out 0; have hfz13_1 := blk_frozen BK270.out 1; have hcz14_0 : w11.cell? ⟨gb271, 0, none⟩ = some (.int .i64 a1_0) := (blk_cell BK271.out 0).trans rfl; have hcz14_1 : w11.cell? ⟨gb271, 1, none⟩ = some (.int .i64 a1_1) := (blk_cell BK271.out 1).trans rfl; have hfz14_0 := blk_frozen BK271.out 0; have hfz14_1 := blk_frozen BK271.out 1))
   go_ret
   exact ⟨rfl, HB.out⟩
 ·rw [if_neg c3] at H
  have c3b0 : (a0_0 == a1_0) = false := beq_eq_false_iff_ne.mpr c3
  have c3b1 : (a0_0 != a1_0) = true := bne_iff_ne.mpr c3
  obtain rfl := Option.some.inj H
  go_enter Try.func37, Try.ntmps37
  go_wp2_with (first | ((with_reducible refine gate_dst (N := 2) rfl ?_); refine box_event ?hg (N := 2) ?hd (cs := #[.int .i64 a0_0, .int .i64 a0_1]) (t := 62) ?hr ?_; (case hd => rfl); (case hg => rfl); (case hr => go_simp); intro gb270 hg w15 hbox hb; have BK270 := aM (hbox); have GW270 := aM ((by rw [hg]; exact (below_size HB.out) : w.heap.size ≤ gb270)); replace HB := aM (below_step HB.out hb); have GE270 := GW270; clear hb hbox hg) | ((with_reducible refine gate_dst (N := 3) rfl ?_); refine box_event ?hg (N := 3) ?hd (cs := #[.int .i64 a1_0, .int .i64 a1_1]) (t := 62) ?hr ?_; (case hd => rfl); (case hg => rfl); (case hr => go_simp); intro gb271 hg w16 hbox hb; have BK271 := aM (hbox); have GW271 := aM ((by rw [hg]; exact (below_size HB.out) : w.heap.size ≤ gb271)); replace HB := aM (below_step HB.out hb); have NB270_271 := aM ((by rw [hg]; exact Nat.ne_of_lt (blk_lt (g := gb270) (o := .cells #[.int .i64 a0_0, .int .i64 a0_1] 62 (0, 0)) BK270.out) : gb270 ≠ gb271)); have NB271_270 := aM ((by rw [hg]; exact Nat.ne_of_gt (blk_lt (g := gb270) (o := .cells #[.int .i64 a0_0, .int .i64 a0_1] 62 (0, 0)) BK270.out) : gb271 ≠ gb270)); replace BK270 := aM (blk_below (g := gb270) (o := .cells #[.int .i64 a0_0, .int .i64 a0_1] 62 (0, 0)) BK270.out hb); have GE271 := GW271; clear hb hbox hg; have hnb17 := NB270_271.out; have hnc17 := NB271_270.out; have hcz18_0 : w16.cell? ⟨gb270, 0, none⟩ = some (.int .i64 a0_0) := (blk_cell BK270.out 0).trans rfl; have hcz18_1 : w16.cell? ⟨gb270, 1, none⟩ = some (.int .i64 a0_1) := (blk_cell BK270.out 1).trans rfl; have hfz18_0 := blk_frozen BK270.out 0; have hfz18_1 := blk_frozen BK270.out 1; have hcz19_0 : w16.cell? ⟨gb271, 0, none⟩ = some (.int .i64 a1_0) := (blk_cell BK271.out 0).trans rfl; have hcz19_1 : w16.cell? ⟨gb271, 1, none⟩ = some (.int .i64 a1_1) := (blk_cell BK271.out 1).trans rfl; have hfz19_0 := blk_frozen BK271.out 0; have hfz19_1 := blk_frozen BK271.out 1))
  go_ret
  exact ⟨rfl, HB.out⟩

end Go.Proofs.Ytehhfcbhoaocdaa.PF
