-- written by a program of this session's (wip/tools), over the kit's print
import Derived.Test.YtehhfcbhoaocdaaPFx0
import Derived.Test.YtehhfcbhoaocdaaPFx9
-- squeezed
-- squeezed twice
namespace Go.Proofs.Ytehhfcbhoaocdaa.PF
open Go.RowKit Go.Proofs.YtehhfcbhoaocdaaW.PrintWords Go.Proofs.YtehhfcbhoaocdaaW.PrintLast Go.Proofs.YtehhfcbhoaocdaaW.PrintMore
attribute [local go_sem] max2_int min2_int max_two min_two max_three min_three max_four min_four   -- for this text's walks alone
set_option linter.unusedVariables false
set_option linter.unusedSimpArgs false

/-! ### impl_Block_50: function 50 (told by hand) -/
def slices_ContainsFunc_Block.f (rule : Nat → Int → Int → Int → Int → Option Bool) (k : Nat) (l0 : List S77) : Option Bool := (impl_Block_65.f rule k l0).bind fun t => some (decide (0 ≤ t))
theorem slices_ContainsFunc_Block.mono {rule : Nat → Int → Int → Int → Int → Option Bool} (hr : ∀ x0 x1 x2 x3 n, LeO (rule n x0 x1 x2 x3) (rule (n + 1) x0 x1 x2 x3)) : ∀ a0 k, LeO (slices_ContainsFunc_Block.f rule k a0) (slices_ContainsFunc_Block.f rule (k + 1) a0) := fun a0 k => LeO.bind (impl_Block_65.mono hr a0 k) (fun _ => LeO.refl _)
set_option maxHeartbeats 4000000 in
set_option maxRecDepth 100000 in
theorem slices_ContainsFunc_Block.calls (g : Nat) (lb : Array Value) (eg : Go.Proofs.Enters Try.prog g) (rule : Nat → Int → Int → Int → Int → Option Bool) (k : Nat) (A0 : Option Addr) (c0 : Nat) (l0 : List S77) (r : Bool) (w : World) (hr0 : Kd.C k77 w A0 l0.length l0) (hc0 : l0.length ≤ c0)
  (hp : ∀ (j : Nat) (x y z u : Int) (b : Bool) (W : World), Below w.heap.size w W → rule j x y z u = some b → Calls Try.prog g (#[.agg #[.int .i64 x, .int .i64 y, .int .i64 z, .int .i64 u]] ++ lb) W fun e w' => e = .returned (.bool b) ∧ Below W.heap.size W w')
  (h : slices_ContainsFunc_Block.f rule k l0 = some r) :
  Calls Try.prog 50 #[.slice A0 l0.length c0, .func (.func g) #[] lb] w fun e w' => e = .returned (.bool r) ∧ Below w.heap.size w w' := by
 unfold slices_ContainsFunc_Block.f at h
 obtain ⟨t, A1, h⟩ := Option.bind_eq_some_iff.mp h
 obtain rfl := Option.some.inj h
 clear h
 have HC := aM (impl_Block_65.calls g lb eg rule k A0 c0 l0 t w hr0 hc0 hp A1)
 clear A1 hp hr0 hc0
 go_enter Try.func50, Try.ntmps50
 go_wp2_with (first | (go_at_call 65; (with_reducible refine HC.out.mono ?_); rintro e w1 ⟨rfl, hb⟩))
 go_ret
 exact ⟨by first | rfl | simp, hb⟩

/-! ### impl_Bolts_allowed_1: function 67 (told by hand) -/
/-- The function value of impl.Bolts.allowed: whether a state has what a block forbids. -/
def impl_Bolts_allowed_1.rule (s : ByteArray) (_ : Nat) (x y z u : Int) : Option Bool :=
 if 0 ≤ x ∧ x < (s.size : Int) then (if wrap64 (bt s x - 48) = y then (if 0 ≤ z ∧ z < (s.size : Int) then some (decide (wrap64 (bt s z - 48) = u)) else none) else some false) else none
theorem impl_Bolts_allowed_1.rule_mono (s : ByteArray) : ∀ x y z u n, LeO (impl_Bolts_allowed_1.rule s n x y z u) (impl_Bolts_allowed_1.rule s (n + 1) x y z u) := fun _ _ _ _ _ => LeO.refl _
set_option maxHeartbeats 8000000 in
set_option maxRecDepth 100000 in
theorem impl_Bolts_allowed_1.calls (B : Nat) (s : ByteArray) (k : Nat) (x y z u : Int) (b : Bool) (w : World) (hs : w.cell? ⟨B, 0, none⟩ = some (.string s)) (h : impl_Bolts_allowed_1.rule s k x y z u = some b) :
  Calls Try.prog 67 (#[.agg #[.int .i64 x, .int .i64 y, .int .i64 z, .int .i64 u]] ++ #[.pointer (some ⟨B, 0, none⟩)]) w fun e w' => e = .returned (.bool b) ∧ Below w.heap.size w w' := by
 show Calls Try.prog 67 #[.agg #[.int .i64 x, .int .i64 y, .int .i64 z, .int .i64 u], .pointer (some ⟨B, 0, none⟩)] w _
 have hu2 := Try.underlying77
 have hlt := World.block_lt_of_cell? w _ hs
 have HS := aM hs
 have HL := aM hlt
 clear hs hlt
 unfold impl_Bolts_allowed_1.rule at h
 by_cases c1 : 0 ≤ x ∧ x < (s.size : Int)
 ·rw [if_pos c1] at h
  obtain ⟨c1a, c1b⟩ := c1
  by_cases c2 : wrap64 (bt s x - 48) = y
  ·rw [if_pos c2] at h
   by_cases c3 : 0 ≤ z ∧ z < (s.size : Int)
   ·rw [if_pos c3] at h
    obtain ⟨c3a, c3b⟩ := c3
    obtain rfl := Option.some.inj h
    clear h
    have b1 : ∀ h : x.toNat < s.size, ((s[x.toNat]'h).toNat : Int) = bt s x := bt_at s x
    have b3 : ∀ h : z.toNat < s.size, ((s[z.toNat]'h).toNat : Int) = bt s z := bt_at s z
    have w1 : IntKind.i64.wrap (bt s x) = bt s x := by have := bt_range s x; rw [IntKind.wrap_i64]; omega
    have w3 : IntKind.i64.wrap (bt s z) = bt s z := by have := bt_range s z; rw [IntKind.wrap_i64]; omega
    have d2 : (IntKind.i64.wrap (bt s x - 48) == y) = true := by rw [i64_w]; exact beq_iff_eq.2 c2
    have d3 : (IntKind.i64.wrap (bt s z - 48) == u) = decide (wrap64 (bt s z - 48) = u) := by rw [i64_w]; rfl
    go_enter Try.func67, Try.ntmps67
    go_wp2_with (first | ((with_reducible refine gate_dst (N := 2) rfl ?_); refine box_event ?hg (N := 2) ?hd (cs := #[.int .i64 x, .int .i64 y, .int .i64 z, .int .i64 u]) (t := 77) ?hr ?_; (case hd => rfl); (case hg => rfl); (case hr => first | (go_simp; done) | (go_simp; rfl)); intro gb hg w5 hbox hb; have HB := aM hb; have hz0 : w5.cell? ⟨B, 0, none⟩ = some (.string s) := (hb.cell (p := ⟨B, 0, none⟩) HL.out).trans HS.out; have hy0 : w5.cell? ⟨gb, 0, none⟩ = some (.int .i64 x) := (blk_cell hbox 0).trans rfl; have hy1 : w5.cell? ⟨gb, 1, none⟩ = some (.int .i64 y) := (blk_cell hbox 1).trans rfl; have hy2 : w5.cell? ⟨gb, 2, none⟩ = some (.int .i64 z) := (blk_cell hbox 2).trans rfl; have hy3 : w5.cell? ⟨gb, 3, none⟩ = some (.int .i64 u) := (blk_cell hbox 3).trans rfl; clear hb hbox hg))
    go_quiet (fail)
    go_wp2
    go_ret
    exact ⟨rfl, pw_below_drewN HB.out _⟩
   ·rw [if_neg c3] at h; exact absurd h (by simp)
  ·rw [if_neg c2] at h
   obtain rfl := Option.some.inj h
   clear h
   have b1 : ∀ h : x.toNat < s.size, ((s[x.toNat]'h).toNat : Int) = bt s x := bt_at s x
   have w1 : IntKind.i64.wrap (bt s x) = bt s x := by have := bt_range s x; rw [IntKind.wrap_i64]; omega
   have d2 : (IntKind.i64.wrap (bt s x - 48) == y) = false := by rw [i64_w]; exact beq_eq_false_iff_ne.2 c2
   go_enter Try.func67, Try.ntmps67
   go_wp2_with (first | ((with_reducible refine gate_dst (N := 2) rfl ?_); refine box_event ?hg (N := 2) ?hd (cs := #[.int .i64 x, .int .i64 y, .int .i64 z, .int .i64 u]) (t := 77) ?hr ?_; (case hd => rfl); (case hg => rfl); (case hr => first | (go_simp; done) | (go_simp; rfl)); intro gb hg w5 hbox hb; have HB := aM hb; have hz0 : w5.cell? ⟨B, 0, none⟩ = some (.string s) := (hb.cell (p := ⟨B, 0, none⟩) HL.out).trans HS.out; have hy0 : w5.cell? ⟨gb, 0, none⟩ = some (.int .i64 x) := (blk_cell hbox 0).trans rfl; have hy1 : w5.cell? ⟨gb, 1, none⟩ = some (.int .i64 y) := (blk_cell hbox 1).trans rfl; have hy2 : w5.cell? ⟨gb, 2, none⟩ = some (.int .i64 z) := (blk_cell hbox 2).trans rfl; have hy3 : w5.cell? ⟨gb, 3, none⟩ = some (.int .i64 u) := (blk_cell hbox 3).trans rfl; clear hb hbox hg))
   go_quiet (fail)
   go_wp2
   go_ret
   exact ⟨rfl, pw_below_drewN HB.out _⟩
 ·rw [if_neg c1] at h; exact absurd h (by simp)

/-! ### impl_Bolts_allowed: function 55 (told by hand) -/
def impl_Bolts_allowed.f (k : Nat) (l0_0 : List Int) (l0_1 : List S77) (a1 : ByteArray) : Option Bool := (slices_ContainsFunc_Block.f (impl_Bolts_allowed_1.rule a1) k l0_1).bind fun t => some (!t)
theorem impl_Bolts_allowed.mono : ∀ a0 a1 a2 k, LeO (impl_Bolts_allowed.f k a0 a1 a2) (impl_Bolts_allowed.f (k + 1) a0 a1 a2) := fun _ a1 a2 k => LeO.bind (slices_ContainsFunc_Block.mono (impl_Bolts_allowed_1.rule_mono a2) a1 k) (fun _ => LeO.refl _)
set_option maxHeartbeats 8000000 in
set_option maxRecDepth 100000 in
theorem impl_Bolts_allowed.calls (k : Nat) (A0_0 : Option Addr) (c0_0 : Nat) (l0_0 : List Int) (A0_1 : Option Addr) (c0_1 : Nat) (l0_1 : List (S77)) (a1 : ByteArray) (r : Bool) (w : World) (hr0_0 : Kd.C (Kd.int .i64) w A0_0 l0_0.length l0_0) (hc0_0 : l0_0.length ≤ c0_0) (hr0_1 : Kd.C k77 w A0_1 l0_1.length l0_1) (hc0_1 : l0_1.length ≤ c0_1) (h : impl_Bolts_allowed.f k l0_0 l0_1 a1 = some r) :
  Calls Try.prog 55 #[.agg #[.slice A0_0 l0_0.length c0_0, .slice A0_1 l0_1.length c0_1], .string a1] w fun e w' => e = .returned (.bool r) ∧ Below w.heap.size w w' := by
 have hmf : ∀ (fn : Fn) (first cap : Array Value) (w : World), (Instr.makeFunc fn first cap).run Try.prog w = .ok (.func fn first cap) w := fun _ _ _ _ => rfl
 have hu1 := Try.underlying31
 unfold impl_Bolts_allowed.f at h
 obtain ⟨t, A1, h⟩ := Option.bind_eq_some_iff.mp h
 obtain rfl := Option.some.inj h
 clear h
 have HR0 := aM hr0_0
 have HR1 := aM hr0_1
 have HC1 := aM hc0_1
 have HA := aM A1
 clear hr0_0 hr0_1 hc0_0 hc0_1 A1
 go_enter Try.func55, Try.ntmps55
 go_wp2_with (first | ((with_reducible refine gate_dst (N := 2) rfl ?_); refine box_event ?hg (N := 2) ?hd (cs := #[.slice A0_0 l0_0.length c0_0, .slice A0_1 l0_1.length c0_1]) (t := 31) ?hr ?_; (case hd => rfl); (case hg => rfl); (case hr => first | (go_simp; done) | (go_simp; rfl)); intro gb hg w5 hbox hb; have HB := aM hb; have BK := aM hbox; clear hb hbox hg) | ((with_reducible refine gate_dst (N := 3) rfl ?_); refine box_event ?hg (N := 3) ?hd (cs := #[.string a1]) (t := 9) ?hr ?_; (case hd => rfl); (case hg => rfl); (case hr => first | (go_simp; done) | (go_simp; rfl)); intro gs hg w6 hbox hb; have n0 := aM (below_step HB.out hb); have n1 := aM (blk_below (g := gb) (o := .cells #[.slice A0_0 l0_0.length c0_0, .slice A0_1 l0_1.length c0_1] 31 (0, 0)) BK.out hb); clear HB BK; have HB := n0; have hz0 : w6.cell? ⟨gb, 0, none⟩ = some (.slice A0_0 l0_0.length c0_0) := (blk_cell n1.out 0).trans rfl; have hz1 : w6.cell? ⟨gb, 1, none⟩ = some (.slice A0_1 l0_1.length c0_1) := (blk_cell n1.out 1).trans rfl; have HS := aM ((blk_cell hbox 0).trans rfl : w6.cell? ⟨gs, 0, none⟩ = some (.string a1)); have HL := aM (World.block_lt_of_cell? w6 _ HS.out); clear hb hbox hg n0 n1) | (go_at_call 50; (with_reducible refine (slices_ContainsFunc_Block.calls 67 #[.pointer (some ⟨gs, 0, none⟩)] (Go.Proofs.enters_of Try.func67 (by kernel_rfl) rfl) (impl_Bolts_allowed_1.rule a1) k A0_1 c0_1 l0_1 t w6 (Kd.C_below HR1.out HB.out) HC1.out (fun j x y z u b W' hb' hj => impl_Bolts_allowed_1.calls gs a1 j x y z u b W' ((hb'.cell (p := ⟨gs, 0, none⟩) HL.out).trans HS.out) hj) HA.out).mono ?_); rintro e w7 ⟨rfl, hb⟩; have HB7 := aM (below_step HB.out hb); clear hb))
 go_ret
 exact ⟨rfl, HB7.out⟩

/-! ### impl_Bolts_isState: function 63 -/
def impl_Bolts_isState.l0 : Nat → ByteArray → Int → Int → List Int → List (S77) → Option (Bool)
 | 0, _, _, _, _, _ => none
 | k + 1, x1, x13, x14, x247000, x247001 => if x14 < x13 then (if 0 ≤ x14 then (if x14 < (x1.size : Int) then (if x14 < (x247000.length : Int) then ((impl_in.f (wrap64 ((wrap64 (bt x1 x14)) - 48)) 0 (wrap64 ((rd x247000 x14) - 1))).bind fun t248 => (if t248 = true then (impl_Bolts_isState.l0 k x1 x13 (wrap64 (x14 + 1)) x247000 x247001) else (some false))) else (none)) else (none)) else (none)) else (some true)
def impl_Bolts_isState.f (k : Nat) (l0_0 : List Int) (l0_1 : List (S77)) (a1 : ByteArray) : Option (Bool) := if (a1.size : Int) = (l0_0.length : Int) then (impl_Bolts_isState.l0 k a1 (a1.size : Int) 0 l0_0 l0_1) else (some false)
theorem impl_Bolts_isState.mono_l : ∀ k, (∀ y0 y1 y2 y3 y4, LeO (impl_Bolts_isState.l0 k y0 y1 y2 y3 y4) (impl_Bolts_isState.l0 (k + 1) y0 y1 y2 y3 y4))
 | 0 => fun _ _ _ _ _ r h => by simp [impl_Bolts_isState.l0] at h
 | k + 1 => by
  have ih0 := impl_Bolts_isState.mono_l k
  ·intro y0 y1 y2 y3 y4
   unfold impl_Bolts_isState.l0
   repeat' first
   | (with_reducible exact ih0 _ _ _ _ _)
   | (with_reducible exact LeO.refl _)
   | (with_reducible exact LeO.none _)
   | (with_reducible refine LeO.ite ?_ ?_)
   | (with_reducible refine LeO.bind ?_ (fun _ => ?_))
   | exact ih0 _ _ _ _ _
   | exact LeO.none _
   | refine LeO.ite ?_ ?_
   | refine LeO.bind ?_ (fun _ => ?_)
theorem impl_Bolts_isState.mono : ∀ a0 a1 a2 k, LeO (impl_Bolts_isState.f k a0 a1 a2) (impl_Bolts_isState.f (k + 1) a0 a1 a2) := by
 intro a0 a1 a2 k
 have ih0 := impl_Bolts_isState.mono_l k
 unfold impl_Bolts_isState.f
 repeat' first
   | (with_reducible exact ih0 _ _ _ _ _)
   | (with_reducible exact LeO.refl _)
   | (with_reducible exact LeO.none _)
   | (with_reducible refine LeO.ite ?_ ?_)
   | (with_reducible refine LeO.bind ?_ (fun _ => ?_))
   | exact ih0 _ _ _ _ _
   | exact LeO.none _
   | refine LeO.ite ?_ ?_
   | refine LeO.bind ?_ (fun _ => ?_)
set_option maxHeartbeats 8000000 in
set_option maxRecDepth 100000 in
theorem impl_Bolts_isState.calls (k : Nat) (A0_0 : Option Addr) (c0_0 : Nat) (l0_0 : List Int) (A0_1 : Option Addr) (c0_1 : Nat) (l0_1 : List (S77)) (a1 : ByteArray) (r : Bool) (w : World) (hr0_0 : Kd.C (Kd.int .i64) w A0_0 l0_0.length l0_0) (hc0_0 : l0_0.length ≤ c0_0) (hr0_1 : Kd.C k77 w A0_1 l0_1.length l0_1) (hc0_1 : l0_1.length ≤ c0_1) (h : impl_Bolts_isState.f k l0_0 l0_1 a1 = some r) :
  Calls Try.prog 63 #[.agg #[.slice A0_0 l0_0.length c0_0, .slice A0_1 l0_1.length c0_1], .string a1] w fun e w' => e = .returned (.bool r) ∧ Below w.heap.size w w' := by
 have hu31 := Try.underlying31
 have HR0_0 := aM hr0_0
 have HC0_0 := aM hc0_0
 clear hr0_0 hc0_0
 have HR0_1 := aM hr0_1
 have HC0_1 := aM hc0_1
 clear hr0_1 hc0_1
 have HB := aM (Below.refl w.heap.size w)
 have H : (if (a1.size : Int) = (l0_0.length : Int) then (impl_Bolts_isState.l0 k a1 (a1.size : Int) 0 l0_0 l0_1) else (some false)) = some r := h
 clear h
 by_cases c3 : (a1.size : Int) = (l0_0.length : Int)
 ·rw [if_pos c3] at H
  have c3b0 : ((a1.size : Int) == (l0_0.length : Int)) = true := beq_iff_eq.mpr c3
  have c3b1 : ((a1.size : Int) != (l0_0.length : Int)) = false := bne_eq_false_iff_eq.mpr c3
  have c3b2 : (a1.size == l0_0.length) = true := by first | simpa using c3 | (simp at c3 ⊢; omega)
  clear c3
  have H' := aM H
  clear H
  go_enter Try.func63, Try.ntmps63
  go_wp2_with (first | ((with_reducible refine gate_dst (N := 2) rfl ?_); refine box_event ?hg (N := 2) ?hd (cs := #[.slice A0_0 l0_0.length c0_0, .slice A0_1 l0_1.length c0_1]) (t := 31) ?hr ?_; (case hd => rfl); (case hg => rfl); (case hr => first | (go_simp; done) | (go_simp; rfl)); intro gb246 hg w4 hbox hb; have n0_ := aM (below_step (by repeat (first | (with_reducible first | exact HB.out | apply bA | apply bN | apply bD) | exact HB.out)) hb); have n1_ := aM (hbox); have n2_ := aM ((by rw [hg]; exact (below_size (by repeat (first | (with_reducible first | exact HB.out | apply bA | apply bN | apply bD) | exact HB.out))) : w.heap.size ≤ gb246)); have n3_ := aM ((by rw [hg]; exact (below_size (by repeat (first | (with_reducible first | exact HB.out | apply bA | apply bN | apply bD) | exact HB.out))) : w.heap.size ≤ gb246)); clear HB; have HB := n0_; have BK246 := n1_; have GW246 := n2_; have GE246 := n3_; clear n0_ n1_ n2_ n3_; clear hb hbox hg; have hcz5_0 : w4.cell? ⟨gb246, 0, none⟩ = some (.slice A0_0 l0_0.length c0_0) := (blk_cell BK246.out 0).trans rfl; have hcz5_1 : w4.cell? ⟨gb246, 1, none⟩ = some (.slice A0_1 l0_1.length c0_1) := (blk_cell BK246.out 1).trans rfl; have hfz5_0 := blk_frozen BK246.out 0; have hfz5_1 := blk_frozen BK246.out 1))
  repeat (go_quiet (first | ((with_reducible refine gate_dst (N := 2) rfl ?_); refine box_event ?hg (N := 2) ?hd (cs := #[.slice A0_0 l0_0.length c0_0, .slice A0_1 l0_1.length c0_1]) (t := 31) ?hr ?_; (case hd => rfl); (case hg => rfl); (case hr => first | (go_simp; done) | (go_simp; rfl)); intro gb246 hg w4 hbox hb; have n0_ := aM (below_step (by repeat (first | (with_reducible first | exact HB.out | apply bA | apply bN | apply bD) | exact HB.out)) hb); have n1_ := aM (hbox); have n2_ := aM ((by rw [hg]; exact (below_size (by repeat (first | (with_reducible first | exact HB.out | apply bA | apply bN | apply bD) | exact HB.out))) : w.heap.size ≤ gb246)); have n3_ := aM ((by rw [hg]; exact (below_size (by repeat (first | (with_reducible first | exact HB.out | apply bA | apply bN | apply bD) | exact HB.out))) : w.heap.size ≤ gb246)); clear HB; have HB := n0_; have BK246 := n1_; have GW246 := n2_; have GE246 := n3_; clear n0_ n1_ n2_ n3_; clear hb hbox hg; have hcz5_0 : w4.cell? ⟨gb246, 0, none⟩ = some (.slice A0_0 l0_0.length c0_0) := (blk_cell BK246.out 0).trans rfl; have hcz5_1 : w4.cell? ⟨gb246, 1, none⟩ = some (.slice A0_1 l0_1.length c0_1) := (blk_cell BK246.out 1).trans rfl; have hfz5_0 := blk_frozen BK246.out 0; have hfz5_1 := blk_frozen BK246.out 1)); try go_wp2_with (first | ((with_reducible refine gate_dst (N := 2) rfl ?_); refine box_event ?hg (N := 2) ?hd (cs := #[.slice A0_0 l0_0.length c0_0, .slice A0_1 l0_1.length c0_1]) (t := 31) ?hr ?_; (case hd => rfl); (case hg => rfl); (case hr => first | (go_simp; done) | (go_simp; rfl)); intro gb246 hg w4 hbox hb; have n0_ := aM (below_step (by repeat (first | (with_reducible first | exact HB.out | apply bA | apply bN | apply bD) | exact HB.out)) hb); have n1_ := aM (hbox); have n2_ := aM ((by rw [hg]; exact (below_size (by repeat (first | (with_reducible first | exact HB.out | apply bA | apply bN | apply bD) | exact HB.out))) : w.heap.size ≤ gb246)); have n3_ := aM ((by rw [hg]; exact (below_size (by repeat (first | (with_reducible first | exact HB.out | apply bA | apply bN | apply bD) | exact HB.out))) : w.heap.size ≤ gb246)); clear HB; have HB := n0_; have BK246 := n1_; have GW246 := n2_; have GE246 := n3_; clear n0_ n1_ n2_ n3_; clear hb hbox hg; have hcz5_0 : w4.cell? ⟨gb246, 0, none⟩ = some (.slice A0_0 l0_0.length c0_0) := (blk_cell BK246.out 0).trans rfl; have hcz5_1 : w4.cell? ⟨gb246, 1, none⟩ = some (.slice A0_1 l0_1.length c0_1) := (blk_cell BK246.out 1).trans rfl; have hfz5_0 := blk_frozen BK246.out 0; have hfz5_1 := blk_frozen BK246.out 1)))
  go_loopg [14] k (fun kq v14 w' => ∃ (x14_1 : Int), v14 = .int .i64 x14_1 ∧ Aside0 (impl_Bolts_isState.l0 kq a1 (a1.size : Int) x14_1 l0_0 l0_1 = some r) ∧ Aside0 (kq ≤ k) ∧ Aside0 (w'.heap[gb246]? = some (.cells #[(.slice A0_0 l0_0.length c0_0), (.slice A0_1 l0_1.length c0_1)] 31 (0, 0))) ∧ Aside0 (Below w.heap.size w w'))
  case atStart => exact ⟨(0), (by first | rfl | (simp; done) | (simp [*]; done)), H', ⟨Nat.le_refl _⟩, ⟨by (with_reducible repeat (first | refine kN ?_ _ | refine kD ?_ | refine kA ?_ _)); exact BK246.out⟩, ⟨by repeat (first | (with_reducible first | exact HB.out | apply bA | apply bN | apply bD | refine bS ?_ GE246.out) | exact HB.out)⟩⟩
  case round =>
   clear H'
   try clear p2
   try clear c3
   try clear c3b0
   try clear c3b1
   try clear c3b2
   try clear hcz5_0
   try clear hcz5_1
   try clear hfz5_0
   try clear hfz5_1
   obtain ⟨x14_1, rfl, HA, HK1, BK246, HB⟩ := hrel
   cases gk with
   | zero => exact absurd HA.out (by simp [impl_Bolts_isState.l0])
   | succ k1 =>
    have H := HA.out
    clear HA
    simp only [impl_Bolts_isState.l0] at H
    by_cases c6 : x14_1 < (a1.size : Int)
    ·rw [if_pos c6] at H
     have c6b0 : decide (x14_1 < (a1.size : Int)) = true := decide_eq_true c6
     clear c6
     by_cases c7 : 0 ≤ x14_1
     ·rw [if_pos c7] at H
      have c7b0 : decide (0 ≤ x14_1) = true := decide_eq_true c7
      clear c7
      by_cases c8 : x14_1 < (a1.size : Int)
      ·rw [if_pos c8] at H
       have c8b0 : decide (x14_1 < (a1.size : Int)) = true := decide_eq_true c8
       clear c8
       by_cases c10 : x14_1 < (l0_0.length : Int)
       ·rw [if_pos c10] at H
        have c10b0 : decide (x14_1 < (l0_0.length : Int)) = true := decide_eq_true c10
        clear c10
        replace H := Option.bind_eq_some_iff.mp H
        obtain ⟨t248, A110, H⟩ := H
        replace H : (if t248 = true then (impl_Bolts_isState.l0 k1 a1 (a1.size : Int) (wrap64 (x14_1 + 1)) l0_0 l0_1) else (some false)) = some r := H
        have A11 := aM A110
        clear A110
        by_cases c12 : t248 = true
        ·subst c12
         have H1 : (impl_Bolts_isState.l0 k1 a1 (a1.size : Int) (wrap64 (x14_1 + 1)) l0_0 l0_1) = some r := by rw [if_pos rfl] at H; exact H
         clear H; have H := H1; clear H1
         have H' := aM H
         clear H
         have p9 : 0 ≤ (x14_1 : Int) := of_decide_eq_true (by first | (with_reducible assumption) | assumption)
         have q9 : x14_1 < (a1.size : Int) := of_decide_eq_true (by first | (with_reducible assumption) | assumption)
         have hx9 := bt_at a1 x14_1
         replace p9 := eq_true p9
         replace q9 := eq_true q9
         have hcz13_0 : wr.cell? ⟨gb246, 0, none⟩ = some (.slice A0_0 l0_0.length c0_0) := (blk_cell BK246.out 0).trans rfl
         have hcz13_1 : wr.cell? ⟨gb246, 1, none⟩ = some (.slice A0_1 l0_1.length c0_1) := (blk_cell BK246.out 1).trans rfl
         have hfz13_0 := blk_frozen BK246.out 0
         have hfz13_1 := blk_frozen BK246.out 1
         have p247 : 0 ≤ (x14_1 : Int) := of_decide_eq_true (by first | (with_reducible assumption) | assumption)
         have q247 : x14_1 < (l0_0.length : Int) := of_decide_eq_true (by first | (with_reducible assumption) | assumption)
         obtain ⟨ad247, e247, hx247_0⟩ := Kd.at_int HR0_0.out x14_1 p247 q247
         cases e247
         replace hx247_0 := (HB.out.cell (World.block_lt_of_cell? w _ hx247_0)).trans hx247_0
         replace p247 := eq_true p247
         replace q247 := eq_true q247
         go_wp2_with (first | (go_at_call 46; (with_reducible refine (impl_in.calls (wrap64 ((wrap64 (bt a1 x14_1)) - 48)) 0 (wrap64 ((rd l0_0 x14_1) - 1)) true _ A11.out).mono ?_); rintro e w' ⟨rfl, ⟨nd, rfl⟩⟩; (try first | exact ⟨rfl, _, World.drewN_drewN _ _ _⟩ | exact ⟨rfl, _, Eq.trans (World.drewN_drewN _ _ _) (congrArg (World.drewN _) (Nat.add_assoc _ _ _))⟩)))
         repeat (go_quiet (first | (go_at_call 46; (with_reducible refine (impl_in.calls (wrap64 ((wrap64 (bt a1 x14_1)) - 48)) 0 (wrap64 ((rd l0_0 x14_1) - 1)) true _ A11.out).mono ?_); rintro e w' ⟨rfl, ⟨nd, rfl⟩⟩; (try first | exact ⟨rfl, _, World.drewN_drewN _ _ _⟩ | exact ⟨rfl, _, Eq.trans (World.drewN_drewN _ _ _) (congrArg (World.drewN _) (Nat.add_assoc _ _ _))⟩))); try go_wp2_with (first | (go_at_call 46; (with_reducible refine (impl_in.calls (wrap64 ((wrap64 (bt a1 x14_1)) - 48)) 0 (wrap64 ((rd l0_0 x14_1) - 1)) true _ A11.out).mono ?_); rintro e w' ⟨rfl, ⟨nd, rfl⟩⟩; (try first | exact ⟨rfl, _, World.drewN_drewN _ _ _⟩ | exact ⟨rfl, _, Eq.trans (World.drewN_drewN _ _ _) (congrArg (World.drewN _) (Nat.add_assoc _ _ _))⟩))))
         go_roundg k1
         case measure => have := HK1.out; omega
         case rel => exact ⟨(wrap64 (x14_1 + 1)), (by first | rfl | (simp; done) | (simp [*]; done)), H', ⟨by have := HK1.out; omega⟩, ⟨by (with_reducible repeat (first | refine kN ?_ _ | refine kD ?_ | refine kA ?_ _)); exact BK246.out⟩, ⟨by repeat (first | (with_reducible first | exact HB.out | apply bA | apply bN | apply bD | refine bS ?_ GE246.out) | exact HB.out)⟩⟩
        ·replace c12 := Bool.eq_false_iff.mpr c12
         subst c12
         have H1 : (some false) = some r := by rw [if_neg (show ¬ (false = true) by decide)] at H; exact H
         clear H; have H := H1; clear H1
         obtain rfl := Option.some.inj H
         have p9 : 0 ≤ (x14_1 : Int) := of_decide_eq_true (by first | (with_reducible assumption) | assumption)
         have q9 : x14_1 < (a1.size : Int) := of_decide_eq_true (by first | (with_reducible assumption) | assumption)
         have hx9 := bt_at a1 x14_1
         replace p9 := eq_true p9
         replace q9 := eq_true q9
         have hcz14_0 : wr.cell? ⟨gb246, 0, none⟩ = some (.slice A0_0 l0_0.length c0_0) := (blk_cell BK246.out 0).trans rfl
         have hcz14_1 : wr.cell? ⟨gb246, 1, none⟩ = some (.slice A0_1 l0_1.length c0_1) := (blk_cell BK246.out 1).trans rfl
         have hfz14_0 := blk_frozen BK246.out 0
         have hfz14_1 := blk_frozen BK246.out 1
         have p247 : 0 ≤ (x14_1 : Int) := of_decide_eq_true (by first | (with_reducible assumption) | assumption)
         have q247 : x14_1 < (l0_0.length : Int) := of_decide_eq_true (by first | (with_reducible assumption) | assumption)
         obtain ⟨ad247, e247, hx247_0⟩ := Kd.at_int HR0_0.out x14_1 p247 q247
         cases e247
         replace hx247_0 := (HB.out.cell (World.block_lt_of_cell? w _ hx247_0)).trans hx247_0
         replace p247 := eq_true p247
         replace q247 := eq_true q247
         go_wp2_with (first | (go_at_call 46; (with_reducible refine (impl_in.calls (wrap64 ((wrap64 (bt a1 x14_1)) - 48)) 0 (wrap64 ((rd l0_0 x14_1) - 1)) false _ A11.out).mono ?_); rintro e w' ⟨rfl, ⟨nd, rfl⟩⟩; (try first | exact ⟨rfl, _, World.drewN_drewN _ _ _⟩ | exact ⟨rfl, _, Eq.trans (World.drewN_drewN _ _ _) (congrArg (World.drewN _) (Nat.add_assoc _ _ _))⟩)))
         repeat (go_quiet (first | (go_at_call 46; (with_reducible refine (impl_in.calls (wrap64 ((wrap64 (bt a1 x14_1)) - 48)) 0 (wrap64 ((rd l0_0 x14_1) - 1)) false _ A11.out).mono ?_); rintro e w' ⟨rfl, ⟨nd, rfl⟩⟩; (try first | exact ⟨rfl, _, World.drewN_drewN _ _ _⟩ | exact ⟨rfl, _, Eq.trans (World.drewN_drewN _ _ _) (congrArg (World.drewN _) (Nat.add_assoc _ _ _))⟩))); try go_wp2_with (first | (go_at_call 46; (with_reducible refine (impl_in.calls (wrap64 ((wrap64 (bt a1 x14_1)) - 48)) 0 (wrap64 ((rd l0_0 x14_1) - 1)) false _ A11.out).mono ?_); rintro e w' ⟨rfl, ⟨nd, rfl⟩⟩; (try first | exact ⟨rfl, _, World.drewN_drewN _ _ _⟩ | exact ⟨rfl, _, Eq.trans (World.drewN_drewN _ _ _) (congrArg (World.drewN _) (Nat.add_assoc _ _ _))⟩))))
         go_ret
         exact ⟨by first | rfl | (simp [errW_none, errW_some] <;> rfl) | (simp [*, errW_none, errW_some] <;> rfl), by repeat (first | (with_reducible first | exact HB.out | apply bA | apply bN | apply bD | refine bS ?_ GE246.out) | exact HB.out)⟩
       ·rw [if_neg c10] at H
        exact absurd H (by simp)
      ·rw [if_neg c8] at H
       exact absurd H (by simp)
     ·rw [if_neg c7] at H
      exact absurd H (by simp)
    ·rw [if_neg c6] at H
     have c6b0 : decide (x14_1 < (a1.size : Int)) = false := decide_eq_false c6
     clear c6
     obtain rfl := Option.some.inj H
     go_wp2
     repeat (go_quiet (fail); try go_wp2)
     go_ret
     exact ⟨by first | rfl | (simp [errW_none, errW_some] <;> rfl) | (simp [*, errW_none, errW_some] <;> rfl), by repeat (first | (with_reducible first | exact HB.out | apply bA | apply bN | apply bD | refine bS ?_ GE246.out) | exact HB.out)⟩
 ·rw [if_neg c3] at H
  have c3b0 : ((a1.size : Int) == (l0_0.length : Int)) = false := beq_eq_false_iff_ne.mpr c3
  have c3b1 : ((a1.size : Int) != (l0_0.length : Int)) = true := bne_iff_ne.mpr c3
  have c3b2 : (a1.size == l0_0.length) = false := by first | simpa using c3 | (simp at c3 ⊢; omega)
  obtain rfl := Option.some.inj H
  go_enter Try.func63, Try.ntmps63
  go_wp2_with (first | ((with_reducible refine gate_dst (N := 2) rfl ?_); refine box_event ?hg (N := 2) ?hd (cs := #[.slice A0_0 l0_0.length c0_0, .slice A0_1 l0_1.length c0_1]) (t := 31) ?hr ?_; (case hd => rfl); (case hg => rfl); (case hr => first | (go_simp; done) | (go_simp; rfl)); intro gb246 hg w15 hbox hb; have n0_ := aM (below_step (by repeat (first | (with_reducible first | exact HB.out | apply bA | apply bN | apply bD) | exact HB.out)) hb); have n1_ := aM (hbox); have n2_ := aM ((by rw [hg]; exact (below_size (by repeat (first | (with_reducible first | exact HB.out | apply bA | apply bN | apply bD) | exact HB.out))) : w.heap.size ≤ gb246)); have n3_ := aM ((by rw [hg]; exact (below_size (by repeat (first | (with_reducible first | exact HB.out | apply bA | apply bN | apply bD) | exact HB.out))) : w.heap.size ≤ gb246)); clear HB; have HB := n0_; have BK246 := n1_; have GW246 := n2_; have GE246 := n3_; clear n0_ n1_ n2_ n3_; clear hb hbox hg; have hcz16_0 : w15.cell? ⟨gb246, 0, none⟩ = some (.slice A0_0 l0_0.length c0_0) := (blk_cell BK246.out 0).trans rfl; have hcz16_1 : w15.cell? ⟨gb246, 1, none⟩ = some (.slice A0_1 l0_1.length c0_1) := (blk_cell BK246.out 1).trans rfl; have hfz16_0 := blk_frozen BK246.out 0; have hfz16_1 := blk_frozen BK246.out 1))
  repeat (go_quiet (first | ((with_reducible refine gate_dst (N := 2) rfl ?_); refine box_event ?hg (N := 2) ?hd (cs := #[.slice A0_0 l0_0.length c0_0, .slice A0_1 l0_1.length c0_1]) (t := 31) ?hr ?_; (case hd => rfl); (case hg => rfl); (case hr => first | (go_simp; done) | (go_simp; rfl)); intro gb246 hg w15 hbox hb; have n0_ := aM (below_step (by repeat (first | (with_reducible first | exact HB.out | apply bA | apply bN | apply bD) | exact HB.out)) hb); have n1_ := aM (hbox); have n2_ := aM ((by rw [hg]; exact (below_size (by repeat (first | (with_reducible first | exact HB.out | apply bA | apply bN | apply bD) | exact HB.out))) : w.heap.size ≤ gb246)); have n3_ := aM ((by rw [hg]; exact (below_size (by repeat (first | (with_reducible first | exact HB.out | apply bA | apply bN | apply bD) | exact HB.out))) : w.heap.size ≤ gb246)); clear HB; have HB := n0_; have BK246 := n1_; have GW246 := n2_; have GE246 := n3_; clear n0_ n1_ n2_ n3_; clear hb hbox hg; have hcz16_0 : w15.cell? ⟨gb246, 0, none⟩ = some (.slice A0_0 l0_0.length c0_0) := (blk_cell BK246.out 0).trans rfl; have hcz16_1 : w15.cell? ⟨gb246, 1, none⟩ = some (.slice A0_1 l0_1.length c0_1) := (blk_cell BK246.out 1).trans rfl; have hfz16_0 := blk_frozen BK246.out 0; have hfz16_1 := blk_frozen BK246.out 1)); try go_wp2_with (first | ((with_reducible refine gate_dst (N := 2) rfl ?_); refine box_event ?hg (N := 2) ?hd (cs := #[.slice A0_0 l0_0.length c0_0, .slice A0_1 l0_1.length c0_1]) (t := 31) ?hr ?_; (case hd => rfl); (case hg => rfl); (case hr => first | (go_simp; done) | (go_simp; rfl)); intro gb246 hg w15 hbox hb; have n0_ := aM (below_step (by repeat (first | (with_reducible first | exact HB.out | apply bA | apply bN | apply bD) | exact HB.out)) hb); have n1_ := aM (hbox); have n2_ := aM ((by rw [hg]; exact (below_size (by repeat (first | (with_reducible first | exact HB.out | apply bA | apply bN | apply bD) | exact HB.out))) : w.heap.size ≤ gb246)); have n3_ := aM ((by rw [hg]; exact (below_size (by repeat (first | (with_reducible first | exact HB.out | apply bA | apply bN | apply bD) | exact HB.out))) : w.heap.size ≤ gb246)); clear HB; have HB := n0_; have BK246 := n1_; have GW246 := n2_; have GE246 := n3_; clear n0_ n1_ n2_ n3_; clear hb hbox hg; have hcz16_0 : w15.cell? ⟨gb246, 0, none⟩ = some (.slice A0_0 l0_0.length c0_0) := (blk_cell BK246.out 0).trans rfl; have hcz16_1 : w15.cell? ⟨gb246, 1, none⟩ = some (.slice A0_1 l0_1.length c0_1) := (blk_cell BK246.out 1).trans rfl; have hfz16_0 := blk_frozen BK246.out 0; have hfz16_1 := blk_frozen BK246.out 1)))
  go_ret
  exact ⟨by first | rfl | (simp [errW_none, errW_some] <;> rfl) | (simp [*, errW_none, errW_some] <;> rfl), by repeat (first | (with_reducible first | exact HB.out | apply bA | apply bN | apply bD | refine bS ?_ GE246.out) | exact HB.out)⟩

/-! ### impl_Bolts_slid: function 36 (told by hand) -/
/-- A text with one byte slid by 1 or -1. -/
def impl_Bolts_slid.out (s : ByteArray) (i : Nat) (by_ : Int) : ByteArray := ⟨(s.data.toList.set i (UInt8.ofNat (((s.data.toList.getD i 0).toNat + (if by_ = 1 then 1 else 255)) % 256))).toArray⟩
def impl_Bolts_slid.f (k : Nat) (l0_0 : List Int) (l0_1 : List S77) (a1 : ByteArray) (a2_0 a2_1 : Int) : Option (ByteArray × Bool) :=
 (impl_in.f a2_0 0 (wrap64 ((a1.size : Int) - 1))).bind fun t => if t = true then (if a2_1 = 1 ∨ a2_1 = -1 then (if 0 ≤ a2_0 ∧ a2_0 < (a1.size : Int) ∧ a1.size ≤ 4611686018427387904 then
  ((impl_Bolts_isState.f k l0_0 l0_1 (impl_Bolts_slid.out a1 a2_0.toNat a2_1)).bind fun a => if a = true then ((impl_Bolts_allowed.f k l0_0 l0_1 (impl_Bolts_slid.out a1 a2_0.toNat a2_1)).bind fun b => some (impl_Bolts_slid.out a1 a2_0.toNat a2_1, b)) else some (impl_Bolts_slid.out a1 a2_0.toNat a2_1, false)) else none) else some (⟨#[]⟩, false)) else some (⟨#[]⟩, false)
theorem impl_Bolts_slid.mono : ∀ a0 a1 a2 a3 a4 k, LeO (impl_Bolts_slid.f k a0 a1 a2 a3 a4) (impl_Bolts_slid.f (k + 1) a0 a1 a2 a3 a4) := fun _ _ _ _ _ k =>
 LeO.bind (LeO.refl _) (fun _ => LeO.ite (LeO.ite (LeO.ite (LeO.bind (impl_Bolts_isState.mono _ _ _ _) (fun _ => LeO.ite (LeO.bind (impl_Bolts_allowed.mono _ _ _ _) (fun _ => LeO.refl _)) (LeO.refl _))) (LeO.refl _)) (LeO.refl _)) (LeO.refl _))
theorem impl_Bolts_slid.conv (w7 : World) (a1 : ByteArray) (i : Nat) (hi : i < a1.size) (v : UInt8) : ∃ (W1 : World) (cap : Nat), (convert 9 89 (.string a1)).run Try.prog w7 = .ok (.slice (some ⟨w7.heap.size, 0, none⟩) a1.size cap) W1 ∧ Below w7.heap.size w7 W1 ∧ W1.frozen? ⟨w7.heap.size, i, none⟩ = false ∧
  W1.cell? ⟨w7.heap.size, i, none⟩ = some (.int .u8 (a1.data.toList.getD i 0).toNat) ∧ (convert 89 9 (.slice (some ⟨w7.heap.size, 0, none⟩) a1.size cap)).run Try.prog ((W1.setCell ⟨w7.heap.size, i, none⟩ (.int .u8 (v.toNat : Int))).drew) = .ok (.string ⟨(a1.data.toList.set i v).toArray⟩) ((W1.setCell ⟨w7.heap.size, i, none⟩ (.int .u8 (v.toNat : Int))).drew) := by
 have hcells : ∀ j, j < a1.size → (Lib.bytesWorld w7 5 a1).cell? ⟨w7.heap.size, j, none⟩ = some (.int .u8 (a1.data.toList.getD j 0).toNat) := fun j hj => Lib.bytesWorld_cell w7 5 a1 j hj
 have hat := Lib.bytesWorld_at_new w7 5 a1
 refine ⟨Lib.bytesWorld w7 5 a1, grownCap w7 a1.size 0 5, Lib.run_convert_string_bytes (P := Try.prog) w7 9 89 5 a1 Try.underlying9 Try.underlying89 Try.underlying5, bytes_below (Below.refl _ _) (Nat.le_refl _) 5 a1, ?_, hcells i hi, ?_⟩
 ·have hs : a1.size ≤ (Lib.bytesCells w7 5 a1).size := by simp [Lib.bytesCells, Array.size_append]
  simp [World.frozen?, hat]
  omega
 ·generalize grownCap w7 a1.size 0 5 = cap
  generalize Lib.bytesWorld w7 5 a1 = W1 at hcells
  have hl : (a1.data.toList.set i v).length = a1.size := by rw [List.length_set, Array.length_toList]; rfl
  have h := run_convert_bytes_back (P := Try.prog) ((W1.setCell ⟨w7.heap.size, i, none⟩ (.int .u8 (v.toNat : Int))).drew) 89 9 5 ⟨w7.heap.size, 0, none⟩ cap (a1.data.toList.set i v) Try.underlying89 Try.underlying5 Try.underlying9 (fun j hj => by
   rw [hl] at hj
   rw [add_plain, List.getElem_set]
   by_cases e : i = j
   ·subst e
    rw [if_pos rfl]
    exact World.cell?_setCell_same W1 _ _ (hcells i hi)
   ·rw [if_neg e]
    refine (World.cell?_setCell_other W1 _ _ _ (by intro h; injection h with _ h2 _; exact e h2)).trans ((hcells j hj).trans ?_)
    have hl2 : j < a1.data.toList.length := by rw [Array.length_toList]; exact hj
    simp [List.getD, List.getElem?_eq_getElem hl2])
  rw [hl] at h
  exact h
set_option maxHeartbeats 8000000 in
set_option maxRecDepth 100000 in
theorem impl_Bolts_slid.calls (k : Nat) (A0_0 : Option Addr) (c0_0 : Nat) (l0_0 : List Int) (A0_1 : Option Addr) (c0_1 : Nat) (l0_1 : List (S77)) (a1 : ByteArray) (a2_0 : Int) (a2_1 : Int) (r1 : ByteArray) (r2 : Bool) (w : World) (hr0_0 : Kd.C (Kd.int .i64) w A0_0 l0_0.length l0_0) (hc0_0 : l0_0.length ≤ c0_0) (hr0_1 : Kd.C k77 w A0_1 l0_1.length l0_1) (hc0_1 : l0_1.length ≤ c0_1) (h : impl_Bolts_slid.f k l0_0 l0_1 a1 a2_0 a2_1 = some (r1, r2)) :
  Calls Try.prog 36 #[.agg #[.slice A0_0 l0_0.length c0_0, .slice A0_1 l0_1.length c0_1], .string a1, .agg #[.int .i64 a2_0, .int .i64 a2_1]] w fun e w' => e = .returned (.tuple #[.string r1, .bool r2]) ∧ Below w.heap.size w w' := by
 have hu1 := Try.underlying31
 have hu2 := Try.underlying62
 unfold impl_Bolts_slid.f at h
 obtain ⟨t, A1_, h⟩ := Option.bind_eq_some_iff.mp h
 have HR0 := aM hr0_0
 have HR1 := aM hr0_1
 have HC0 := aM hc0_0
 have HC1 := aM hc0_1
 have HA := aM A1_
 clear hr0_0 hr0_1 hc0_0 hc0_1 A1_
 cases t with
 | false =>
  rw [if_neg (by simp)] at h
  simp only [Option.some.injEq, Prod.mk.injEq] at h
  obtain ⟨rfl, rfl⟩ := h
  go_enter Try.func36, Try.ntmps36
  go_wp2_with (first | ((with_reducible refine gate_dst (N := 3) rfl ?_); refine box_event ?hg (N := 3) ?hd (cs := #[.slice A0_0 l0_0.length c0_0, .slice A0_1 l0_1.length c0_1]) (t := 31) ?hr ?_; (case hd => rfl); (case hg => rfl); (case hr => first | (go_simp; done) | (go_simp; rfl)); intro gb hg w5 hbox hb; have HB := aM hb; have BK := aM hbox; have GE := aM (show w.heap.size ≤ gb by rw [hg]; exact Nat.le_refl _); clear hb hbox hg) | ((with_reducible refine gate_dst (N := 5) rfl ?_); refine box_event ?hg (N := 5) ?hd (cs := #[.int .i64 a2_0, .int .i64 a2_1]) (t := 62) ?hr ?_; (case hd => rfl); (case hg => rfl); (case hr => first | (go_simp; done) | (go_simp; rfl)); intro gs hg w6 hbox hb; have n0 := aM (below_step HB.out hb); have n1 := aM (blk_below (g := gb) (o := .cells #[.slice A0_0 l0_0.length c0_0, .slice A0_1 l0_1.length c0_1] 31 (0, 0)) BK.out hb); clear HB BK; have HB := n0; have BK := n1; have BS := aM hbox; have hy0 : w6.cell? ⟨gs, 0, none⟩ = some (.int .i64 a2_0) := (blk_cell hbox 0).trans rfl; have hy1 : w6.cell? ⟨gs, 1, none⟩ = some (.int .i64 a2_1) := (blk_cell hbox 1).trans rfl; clear hb hbox hg n0 n1) | (go_at_call 46; (with_reducible refine (impl_in.calls a2_0 0 (wrap64 ((a1.size : Int) - 1)) false _ HA.out).mono ?_); rintro e w' ⟨rfl, ⟨nd, rfl⟩⟩))
  go_ret2
  exact ⟨rfl, by repeat (first | exact HB.out | apply pw_below_drewN)⟩
 | true =>
  rw [if_pos rfl] at h
  by_cases c1 : ¬ (a2_1 = 1 ∨ a2_1 = -1)
  ·rw [if_neg c1] at h
   simp only [Option.some.injEq, Prod.mk.injEq] at h
   obtain ⟨rfl, rfl⟩ := h
   have d1 : (a2_1 != 1) = true := by simp; omega
   have d2 : (a2_1 != -1) = true := by simp; omega
   go_enter Try.func36, Try.ntmps36
   go_wp2_with (first | ((with_reducible refine gate_dst (N := 3) rfl ?_); refine box_event ?hg (N := 3) ?hd (cs := #[.slice A0_0 l0_0.length c0_0, .slice A0_1 l0_1.length c0_1]) (t := 31) ?hr ?_; (case hd => rfl); (case hg => rfl); (case hr => first | (go_simp; done) | (go_simp; rfl)); intro gb hg w5 hbox hb; have HB := aM hb; have BK := aM hbox; have GE := aM (show w.heap.size ≤ gb by rw [hg]; exact Nat.le_refl _); clear hb hbox hg) | ((with_reducible refine gate_dst (N := 5) rfl ?_); refine box_event ?hg (N := 5) ?hd (cs := #[.int .i64 a2_0, .int .i64 a2_1]) (t := 62) ?hr ?_; (case hd => rfl); (case hg => rfl); (case hr => first | (go_simp; done) | (go_simp; rfl)); intro gs hg w6 hbox hb; have n0 := aM (below_step HB.out hb); have n1 := aM (blk_below (g := gb) (o := .cells #[.slice A0_0 l0_0.length c0_0, .slice A0_1 l0_1.length c0_1] 31 (0, 0)) BK.out hb); clear HB BK; have HB := n0; have BK := n1; have BS := aM hbox; have hy0 : w6.cell? ⟨gs, 0, none⟩ = some (.int .i64 a2_0) := (blk_cell hbox 0).trans rfl; have hy1 : w6.cell? ⟨gs, 1, none⟩ = some (.int .i64 a2_1) := (blk_cell hbox 1).trans rfl; clear hb hbox hg n0 n1) | (go_at_call 46; (with_reducible refine (impl_in.calls a2_0 0 (wrap64 ((a1.size : Int) - 1)) true _ HA.out).mono ?_); rintro e w' ⟨rfl, ⟨nd, rfl⟩⟩))
   go_ret2
   exact ⟨rfl, by repeat (first | exact HB.out | apply pw_below_drewN)⟩
  ·replace c1 := Decidable.not_not.mp c1
   rw [if_pos c1] at h
   by_cases c2 : ¬ (0 ≤ a2_0 ∧ a2_0 < (a1.size : Int) ∧ a1.size ≤ 4611686018427387904)
   ·rw [if_neg c2] at h; exact absurd h (by simp)
   replace c2 := Decidable.not_not.mp c2
   rw [if_pos c2] at h
   obtain ⟨c2a, c2b, c2c⟩ := c2
   obtain ⟨i, rfl⟩ : ∃ i : Nat, a2_0 = (i : Int) := ⟨a2_0.toNat, by omega⟩
   have hi : i < a1.size := by omega
   have e1 : (i : Int).toNat = i := rfl
   rw [e1] at h
   obtain ⟨b, hb⟩ : ∃ b : UInt8, b = a1.data.toList.getD i 0 := ⟨_, rfl⟩
   obtain ⟨v, hv⟩ : ∃ v : UInt8, v = UInt8.ofNat ((b.toNat + (if a2_1 = 1 then 1 else 255)) % 256) := ⟨_, rfl⟩
   have hout : impl_Bolts_slid.out a1 i a2_1 = ⟨(a1.data.toList.set i v).toArray⟩ := by rw [hv, hb]; rfl
   have hvn : (v.toNat : Int) = ((b.toNat : Int) + a2_1) % 256 := by
    rw [hv]
    have := b.toNat_lt
    rcases c1 with rfl | rfl
    ·simp
    ·simp; omega
   have hvw : IntKind.u8.wrap ((b.toNat : Int) + IntKind.u8.wrap a2_1) = (v.toNat : Int) := by
    rw [hvn]
    simp [IntKind.wrap, IntKind.bits, IntKind.signed]
   have hvm : ((b.toNat : Int) + a2_1 % 256) % 256 = (v.toNat : Int) := by rw [hvn]; simp
   have hvm2 : ((b.toNat : Int) + a2_1) % 256 = (v.toNat : Int) := hvn.symm
   rw [hout] at h
   clear hout hvn hv
   generalize hO : (⟨(a1.data.toList.set i v).toArray⟩ : ByteArray) = out at h
   obtain ⟨a, A3_, h⟩ := Option.bind_eq_some_iff.mp h
   have HA3 := aM A3_
   have HH := aM h
   have HI := aM hi
   have HV := aM (And.intro hvw hvm2)
   have HVM := aM hvm
   have HO := aM hO
   have HBB := aM hb
   have C1 := aM c1
   clear A3_ h hvw hvm hvm2 hO hb c2c
   have c2d := decide_eq_true c2a
   have c2e := decide_eq_true c2b
   have G1 : Aside0 ((a2_1 != 1) = true → (a2_1 != -1) = false) := ⟨by rcases C1.out with rfl | rfl <;> simp⟩
   cases d1 : (a2_1 != 1) with
   | true =>
    have d2 : (a2_1 != -1) = false := G1.out d1
    have d2 : (a2_1 != -1) = false := G1.out d1
    cases a with
    | false =>
     have h := HH.out
     rw [if_neg (by simp)] at h
     simp only [Option.some.injEq, Prod.mk.injEq] at h
     obtain ⟨rfl, rfl⟩ := h
     go_enter Try.func36, Try.ntmps36
     go_wp2_with (first | ((with_reducible refine gate_dst (N := 3) rfl ?_); refine box_event ?hg (N := 3) ?hd (cs := #[.slice A0_0 l0_0.length c0_0, .slice A0_1 l0_1.length c0_1]) (t := 31) ?hr ?_; (case hd => rfl); (case hg => rfl); (case hr => first | (go_simp; done) | (go_simp; rfl)); intro gb hg w5 hbox hb; have HB := aM hb; have BK := aM hbox; have GE := aM (show w.heap.size ≤ gb by rw [hg]; exact Nat.le_refl _); clear hb hbox hg) | ((with_reducible refine gate_dst (N := 5) rfl ?_); refine box_event ?hg (N := 5) ?hd (cs := #[.int .i64 (i : Int), .int .i64 a2_1]) (t := 62) ?hr ?_; (case hd => rfl); (case hg => rfl); (case hr => first | (go_simp; done) | (go_simp; rfl)); intro gs hg w6 hbox hb; have n0 := aM (below_step HB.out hb); have n1 := aM (blk_below (g := gb) (o := .cells #[.slice A0_0 l0_0.length c0_0, .slice A0_1 l0_1.length c0_1] 31 (0, 0)) BK.out hb); clear HB BK; have HB := n0; have BK := n1; have BS := aM hbox; have hy0 : w6.cell? ⟨gs, 0, none⟩ = some (.int .i64 (i : Int)) := (blk_cell hbox 0).trans rfl; have hy1 : w6.cell? ⟨gs, 1, none⟩ = some (.int .i64 a2_1) := (blk_cell hbox 1).trans rfl; clear hb hbox hg n0 n1) | (go_at_call 46; (with_reducible refine (impl_in.calls (i : Int) 0 (wrap64 ((a1.size : Int) - 1)) true _ HA.out).mono ?_); rintro e w' ⟨rfl, ⟨nd, rfl⟩⟩; have n0 := aM (pw_below_drewN HB.out nd); have n1 := aM (blk_drewN BK.out nd); have n2 := aM (blk_drewN BS.out nd); clear HB BK BS hy0 hy1; have HB := n0; have BK := n1; have BS := n2; clear n0 n1 n2; generalize w6.drewN nd = w7 at HB BK BS ⊢; have hlg : gb < w7.heap.size := blk_lt (g := gb) (o := .cells #[.slice A0_0 l0_0.length c0_0, .slice A0_1 l0_1.length c0_1] 31 (0, 0)) BK.out; have hls : gs < w7.heap.size := blk_lt (g := gs) (o := .cells #[.int .i64 (i : Int), .int .i64 a2_1] 62 (0, 0)) BS.out; have hy0 : w7.cell? ⟨gs, 0, none⟩ = some (.int .i64 (i : Int)) := (blk_cell BS.out 0).trans rfl; have hy1 : w7.cell? ⟨gs, 1, none⟩ = some (.int .i64 a2_1) := (blk_cell BS.out 1).trans rfl; obtain ⟨W1, cap, hconv, hbel, hfz, hci, hback⟩ := impl_Bolts_slid.conv w7 a1 i HI.out v; rw [HO.out] at hback; rw [← HBB.out] at hci; have hz0 : W1.cell? ⟨gs, 0, none⟩ = some (.int .i64 (i : Int)) := (hbel.cell (p := ⟨gs, 0, none⟩) hls).trans ((blk_cell BS.out 0).trans rfl); have hz1 : W1.cell? ⟨gs, 1, none⟩ = some (.int .i64 a2_1) := (hbel.cell (p := ⟨gs, 1, none⟩) hls).trans ((blk_cell BS.out 1).trans rfl); have HB2 := aM (show Below w.heap.size w ((W1.setCell ⟨w7.heap.size, i, none⟩ (.int .u8 (v.toNat : Int))).drew) from below_drew1 ((below_step HB.out hbel).setCell HB.out.size _)); have HK2 := aM (show ((W1.setCell ⟨w7.heap.size, i, none⟩ (.int .u8 (v.toNat : Int))).drew).heap[gb]? = some (.cells #[.slice A0_0 l0_0.length c0_0, .slice A0_1 l0_1.length c0_1] 31 (0, 0)) from blk_drew (blk_far (blk_below (g := gb) (o := .cells #[.slice A0_0 l0_0.length c0_0, .slice A0_1 l0_1.length c0_1] 31 (0, 0)) BK.out hbel) (Nat.ne_of_lt hlg) _)); have hv1 := HV.out.1; have hv2 := HV.out.2; have hv3 := HVM.out; clear hbel HB BK BS hlg hls))
     go_region
     have hq0 : ((W1.setCell ⟨w7.heap.size, i, none⟩ (.int .u8 (v.toNat : Int))).drew).cell? ⟨gb, 0, none⟩ = some (.slice A0_0 l0_0.length c0_0) := (blk_cell HK2.out 0).trans rfl
     have hq1 : ((W1.setCell ⟨w7.heap.size, i, none⟩ (.int .u8 (v.toNat : Int))).drew).cell? ⟨gb, 1, none⟩ = some (.slice A0_1 l0_1.length c0_1) := (blk_cell HK2.out 1).trans rfl
     generalize (W1.setCell ⟨w7.heap.size, i, none⟩ (.int .u8 (v.toNat : Int))).drew = w8 at hback HB2 HK2 hq0 hq1 ⊢
     go_wp2_with (first | (go_at_call 63; (with_reducible refine (impl_Bolts_isState.calls k A0_0 c0_0 l0_0 A0_1 c0_1 l0_1 out false _ (Kd.C_below HR0.out HB2.out) HC0.out (Kd.C_below HR1.out HB2.out) HC1.out HA3.out).mono ?_); rintro e w9 ⟨rfl, hb⟩; have HB9 := aM (below_step HB2.out hb); have BK9 := aM (blk_below (g := gb) (o := .cells #[.slice A0_0 l0_0.length c0_0, .slice A0_1 l0_1.length c0_1] 31 (0, 0)) HK2.out hb); have hx0 : w9.cell? ⟨gb, 0, none⟩ = some (.slice A0_0 l0_0.length c0_0) := (blk_cell BK9.out 0).trans rfl; have hx1 : w9.cell? ⟨gb, 1, none⟩ = some (.slice A0_1 l0_1.length c0_1) := (blk_cell BK9.out 1).trans rfl; clear hb))
     go_ret2
     exact ⟨rfl, HB9.out⟩
    | true =>
     have h := HH.out
     rw [if_pos rfl] at h
     obtain ⟨bb, A4_, h⟩ := Option.bind_eq_some_iff.mp h
     simp only [Option.some.injEq, Prod.mk.injEq] at h
     obtain ⟨rfl, rfl⟩ := h
     have HA4 := aM A4_
     clear A4_
     go_enter Try.func36, Try.ntmps36
     go_wp2_with (first | ((with_reducible refine gate_dst (N := 3) rfl ?_); refine box_event ?hg (N := 3) ?hd (cs := #[.slice A0_0 l0_0.length c0_0, .slice A0_1 l0_1.length c0_1]) (t := 31) ?hr ?_; (case hd => rfl); (case hg => rfl); (case hr => first | (go_simp; done) | (go_simp; rfl)); intro gb hg w5 hbox hb; have HB := aM hb; have BK := aM hbox; have GE := aM (show w.heap.size ≤ gb by rw [hg]; exact Nat.le_refl _); clear hb hbox hg) | ((with_reducible refine gate_dst (N := 5) rfl ?_); refine box_event ?hg (N := 5) ?hd (cs := #[.int .i64 (i : Int), .int .i64 a2_1]) (t := 62) ?hr ?_; (case hd => rfl); (case hg => rfl); (case hr => first | (go_simp; done) | (go_simp; rfl)); intro gs hg w6 hbox hb; have n0 := aM (below_step HB.out hb); have n1 := aM (blk_below (g := gb) (o := .cells #[.slice A0_0 l0_0.length c0_0, .slice A0_1 l0_1.length c0_1] 31 (0, 0)) BK.out hb); clear HB BK; have HB := n0; have BK := n1; have BS := aM hbox; have hy0 : w6.cell? ⟨gs, 0, none⟩ = some (.int .i64 (i : Int)) := (blk_cell hbox 0).trans rfl; have hy1 : w6.cell? ⟨gs, 1, none⟩ = some (.int .i64 a2_1) := (blk_cell hbox 1).trans rfl; clear hb hbox hg n0 n1) | (go_at_call 46; (with_reducible refine (impl_in.calls (i : Int) 0 (wrap64 ((a1.size : Int) - 1)) true _ HA.out).mono ?_); rintro e w' ⟨rfl, ⟨nd, rfl⟩⟩; have n0 := aM (pw_below_drewN HB.out nd); have n1 := aM (blk_drewN BK.out nd); have n2 := aM (blk_drewN BS.out nd); clear HB BK BS hy0 hy1; have HB := n0; have BK := n1; have BS := n2; clear n0 n1 n2; generalize w6.drewN nd = w7 at HB BK BS ⊢; have hlg : gb < w7.heap.size := blk_lt (g := gb) (o := .cells #[.slice A0_0 l0_0.length c0_0, .slice A0_1 l0_1.length c0_1] 31 (0, 0)) BK.out; have hls : gs < w7.heap.size := blk_lt (g := gs) (o := .cells #[.int .i64 (i : Int), .int .i64 a2_1] 62 (0, 0)) BS.out; have hy0 : w7.cell? ⟨gs, 0, none⟩ = some (.int .i64 (i : Int)) := (blk_cell BS.out 0).trans rfl; have hy1 : w7.cell? ⟨gs, 1, none⟩ = some (.int .i64 a2_1) := (blk_cell BS.out 1).trans rfl; obtain ⟨W1, cap, hconv, hbel, hfz, hci, hback⟩ := impl_Bolts_slid.conv w7 a1 i HI.out v; rw [HO.out] at hback; rw [← HBB.out] at hci; have hz0 : W1.cell? ⟨gs, 0, none⟩ = some (.int .i64 (i : Int)) := (hbel.cell (p := ⟨gs, 0, none⟩) hls).trans ((blk_cell BS.out 0).trans rfl); have hz1 : W1.cell? ⟨gs, 1, none⟩ = some (.int .i64 a2_1) := (hbel.cell (p := ⟨gs, 1, none⟩) hls).trans ((blk_cell BS.out 1).trans rfl); have HB2 := aM (show Below w.heap.size w ((W1.setCell ⟨w7.heap.size, i, none⟩ (.int .u8 (v.toNat : Int))).drew) from below_drew1 ((below_step HB.out hbel).setCell HB.out.size _)); have HK2 := aM (show ((W1.setCell ⟨w7.heap.size, i, none⟩ (.int .u8 (v.toNat : Int))).drew).heap[gb]? = some (.cells #[.slice A0_0 l0_0.length c0_0, .slice A0_1 l0_1.length c0_1] 31 (0, 0)) from blk_drew (blk_far (blk_below (g := gb) (o := .cells #[.slice A0_0 l0_0.length c0_0, .slice A0_1 l0_1.length c0_1] 31 (0, 0)) BK.out hbel) (Nat.ne_of_lt hlg) _)); have hv1 := HV.out.1; have hv2 := HV.out.2; have hv3 := HVM.out; clear hbel HB BK BS hlg hls))
     go_region
     have hq0 : ((W1.setCell ⟨w7.heap.size, i, none⟩ (.int .u8 (v.toNat : Int))).drew).cell? ⟨gb, 0, none⟩ = some (.slice A0_0 l0_0.length c0_0) := (blk_cell HK2.out 0).trans rfl
     have hq1 : ((W1.setCell ⟨w7.heap.size, i, none⟩ (.int .u8 (v.toNat : Int))).drew).cell? ⟨gb, 1, none⟩ = some (.slice A0_1 l0_1.length c0_1) := (blk_cell HK2.out 1).trans rfl
     generalize (W1.setCell ⟨w7.heap.size, i, none⟩ (.int .u8 (v.toNat : Int))).drew = w8 at hback HB2 HK2 hq0 hq1 ⊢
     go_wp2_with (first | (go_at_call 63; (with_reducible refine (impl_Bolts_isState.calls k A0_0 c0_0 l0_0 A0_1 c0_1 l0_1 out true _ (Kd.C_below HR0.out HB2.out) HC0.out (Kd.C_below HR1.out HB2.out) HC1.out HA3.out).mono ?_); rintro e w9 ⟨rfl, hb⟩; have HB9 := aM (below_step HB2.out hb); have BK9 := aM (blk_below (g := gb) (o := .cells #[.slice A0_0 l0_0.length c0_0, .slice A0_1 l0_1.length c0_1] 31 (0, 0)) HK2.out hb); have hx0 : w9.cell? ⟨gb, 0, none⟩ = some (.slice A0_0 l0_0.length c0_0) := (blk_cell BK9.out 0).trans rfl; have hx1 : w9.cell? ⟨gb, 1, none⟩ = some (.slice A0_1 l0_1.length c0_1) := (blk_cell BK9.out 1).trans rfl; clear hb) | (go_at_call 55; (with_reducible refine (impl_Bolts_allowed.calls k A0_0 c0_0 l0_0 A0_1 c0_1 l0_1 out bb w9 (Kd.C_below HR0.out HB9.out) HC0.out (Kd.C_below HR1.out HB9.out) HC1.out HA4.out).mono ?_); rintro e w10 ⟨rfl, hb⟩; have HB10 := aM (below_step HB9.out hb); clear hb))
     go_ret2
     exact ⟨rfl, HB10.out⟩
   | false =>
    cases a with
    | false =>
     have h := HH.out
     rw [if_neg (by simp)] at h
     simp only [Option.some.injEq, Prod.mk.injEq] at h
     obtain ⟨rfl, rfl⟩ := h
     go_enter Try.func36, Try.ntmps36
     go_wp2_with (first | ((with_reducible refine gate_dst (N := 3) rfl ?_); refine box_event ?hg (N := 3) ?hd (cs := #[.slice A0_0 l0_0.length c0_0, .slice A0_1 l0_1.length c0_1]) (t := 31) ?hr ?_; (case hd => rfl); (case hg => rfl); (case hr => first | (go_simp; done) | (go_simp; rfl)); intro gb hg w5 hbox hb; have HB := aM hb; have BK := aM hbox; have GE := aM (show w.heap.size ≤ gb by rw [hg]; exact Nat.le_refl _); clear hb hbox hg) | ((with_reducible refine gate_dst (N := 5) rfl ?_); refine box_event ?hg (N := 5) ?hd (cs := #[.int .i64 (i : Int), .int .i64 a2_1]) (t := 62) ?hr ?_; (case hd => rfl); (case hg => rfl); (case hr => first | (go_simp; done) | (go_simp; rfl)); intro gs hg w6 hbox hb; have n0 := aM (below_step HB.out hb); have n1 := aM (blk_below (g := gb) (o := .cells #[.slice A0_0 l0_0.length c0_0, .slice A0_1 l0_1.length c0_1] 31 (0, 0)) BK.out hb); clear HB BK; have HB := n0; have BK := n1; have BS := aM hbox; have hy0 : w6.cell? ⟨gs, 0, none⟩ = some (.int .i64 (i : Int)) := (blk_cell hbox 0).trans rfl; have hy1 : w6.cell? ⟨gs, 1, none⟩ = some (.int .i64 a2_1) := (blk_cell hbox 1).trans rfl; clear hb hbox hg n0 n1) | (go_at_call 46; (with_reducible refine (impl_in.calls (i : Int) 0 (wrap64 ((a1.size : Int) - 1)) true _ HA.out).mono ?_); rintro e w' ⟨rfl, ⟨nd, rfl⟩⟩; have n0 := aM (pw_below_drewN HB.out nd); have n1 := aM (blk_drewN BK.out nd); have n2 := aM (blk_drewN BS.out nd); clear HB BK BS hy0 hy1; have HB := n0; have BK := n1; have BS := n2; clear n0 n1 n2; generalize w6.drewN nd = w7 at HB BK BS ⊢; have hlg : gb < w7.heap.size := blk_lt (g := gb) (o := .cells #[.slice A0_0 l0_0.length c0_0, .slice A0_1 l0_1.length c0_1] 31 (0, 0)) BK.out; have hls : gs < w7.heap.size := blk_lt (g := gs) (o := .cells #[.int .i64 (i : Int), .int .i64 a2_1] 62 (0, 0)) BS.out; have hy0 : w7.cell? ⟨gs, 0, none⟩ = some (.int .i64 (i : Int)) := (blk_cell BS.out 0).trans rfl; have hy1 : w7.cell? ⟨gs, 1, none⟩ = some (.int .i64 a2_1) := (blk_cell BS.out 1).trans rfl; obtain ⟨W1, cap, hconv, hbel, hfz, hci, hback⟩ := impl_Bolts_slid.conv w7 a1 i HI.out v; rw [HO.out] at hback; rw [← HBB.out] at hci; have hz0 : W1.cell? ⟨gs, 0, none⟩ = some (.int .i64 (i : Int)) := (hbel.cell (p := ⟨gs, 0, none⟩) hls).trans ((blk_cell BS.out 0).trans rfl); have hz1 : W1.cell? ⟨gs, 1, none⟩ = some (.int .i64 a2_1) := (hbel.cell (p := ⟨gs, 1, none⟩) hls).trans ((blk_cell BS.out 1).trans rfl); have HB2 := aM (show Below w.heap.size w ((W1.setCell ⟨w7.heap.size, i, none⟩ (.int .u8 (v.toNat : Int))).drew) from below_drew1 ((below_step HB.out hbel).setCell HB.out.size _)); have HK2 := aM (show ((W1.setCell ⟨w7.heap.size, i, none⟩ (.int .u8 (v.toNat : Int))).drew).heap[gb]? = some (.cells #[.slice A0_0 l0_0.length c0_0, .slice A0_1 l0_1.length c0_1] 31 (0, 0)) from blk_drew (blk_far (blk_below (g := gb) (o := .cells #[.slice A0_0 l0_0.length c0_0, .slice A0_1 l0_1.length c0_1] 31 (0, 0)) BK.out hbel) (Nat.ne_of_lt hlg) _)); have hv1 := HV.out.1; have hv2 := HV.out.2; have hv3 := HVM.out; clear hbel HB BK BS hlg hls))
     go_region
     have hq0 : ((W1.setCell ⟨w7.heap.size, i, none⟩ (.int .u8 (v.toNat : Int))).drew).cell? ⟨gb, 0, none⟩ = some (.slice A0_0 l0_0.length c0_0) := (blk_cell HK2.out 0).trans rfl
     have hq1 : ((W1.setCell ⟨w7.heap.size, i, none⟩ (.int .u8 (v.toNat : Int))).drew).cell? ⟨gb, 1, none⟩ = some (.slice A0_1 l0_1.length c0_1) := (blk_cell HK2.out 1).trans rfl
     generalize (W1.setCell ⟨w7.heap.size, i, none⟩ (.int .u8 (v.toNat : Int))).drew = w8 at hback HB2 HK2 hq0 hq1 ⊢
     go_wp2_with (first | (go_at_call 63; (with_reducible refine (impl_Bolts_isState.calls k A0_0 c0_0 l0_0 A0_1 c0_1 l0_1 out false _ (Kd.C_below HR0.out HB2.out) HC0.out (Kd.C_below HR1.out HB2.out) HC1.out HA3.out).mono ?_); rintro e w9 ⟨rfl, hb⟩; have HB9 := aM (below_step HB2.out hb); have BK9 := aM (blk_below (g := gb) (o := .cells #[.slice A0_0 l0_0.length c0_0, .slice A0_1 l0_1.length c0_1] 31 (0, 0)) HK2.out hb); have hx0 : w9.cell? ⟨gb, 0, none⟩ = some (.slice A0_0 l0_0.length c0_0) := (blk_cell BK9.out 0).trans rfl; have hx1 : w9.cell? ⟨gb, 1, none⟩ = some (.slice A0_1 l0_1.length c0_1) := (blk_cell BK9.out 1).trans rfl; clear hb))
     go_ret2
     exact ⟨rfl, HB9.out⟩
    | true =>
     have h := HH.out
     rw [if_pos rfl] at h
     obtain ⟨bb, A4_, h⟩ := Option.bind_eq_some_iff.mp h
     simp only [Option.some.injEq, Prod.mk.injEq] at h
     obtain ⟨rfl, rfl⟩ := h
     have HA4 := aM A4_
     clear A4_
     go_enter Try.func36, Try.ntmps36
     go_wp2_with (first | ((with_reducible refine gate_dst (N := 3) rfl ?_); refine box_event ?hg (N := 3) ?hd (cs := #[.slice A0_0 l0_0.length c0_0, .slice A0_1 l0_1.length c0_1]) (t := 31) ?hr ?_; (case hd => rfl); (case hg => rfl); (case hr => first | (go_simp; done) | (go_simp; rfl)); intro gb hg w5 hbox hb; have HB := aM hb; have BK := aM hbox; have GE := aM (show w.heap.size ≤ gb by rw [hg]; exact Nat.le_refl _); clear hb hbox hg) | ((with_reducible refine gate_dst (N := 5) rfl ?_); refine box_event ?hg (N := 5) ?hd (cs := #[.int .i64 (i : Int), .int .i64 a2_1]) (t := 62) ?hr ?_; (case hd => rfl); (case hg => rfl); (case hr => first | (go_simp; done) | (go_simp; rfl)); intro gs hg w6 hbox hb; have n0 := aM (below_step HB.out hb); have n1 := aM (blk_below (g := gb) (o := .cells #[.slice A0_0 l0_0.length c0_0, .slice A0_1 l0_1.length c0_1] 31 (0, 0)) BK.out hb); clear HB BK; have HB := n0; have BK := n1; have BS := aM hbox; have hy0 : w6.cell? ⟨gs, 0, none⟩ = some (.int .i64 (i : Int)) := (blk_cell hbox 0).trans rfl; have hy1 : w6.cell? ⟨gs, 1, none⟩ = some (.int .i64 a2_1) := (blk_cell hbox 1).trans rfl; clear hb hbox hg n0 n1) | (go_at_call 46; (with_reducible refine (impl_in.calls (i : Int) 0 (wrap64 ((a1.size : Int) - 1)) true _ HA.out).mono ?_); rintro e w' ⟨rfl, ⟨nd, rfl⟩⟩; have n0 := aM (pw_below_drewN HB.out nd); have n1 := aM (blk_drewN BK.out nd); have n2 := aM (blk_drewN BS.out nd); clear HB BK BS hy0 hy1; have HB := n0; have BK := n1; have BS := n2; clear n0 n1 n2; generalize w6.drewN nd = w7 at HB BK BS ⊢; have hlg : gb < w7.heap.size := blk_lt (g := gb) (o := .cells #[.slice A0_0 l0_0.length c0_0, .slice A0_1 l0_1.length c0_1] 31 (0, 0)) BK.out; have hls : gs < w7.heap.size := blk_lt (g := gs) (o := .cells #[.int .i64 (i : Int), .int .i64 a2_1] 62 (0, 0)) BS.out; have hy0 : w7.cell? ⟨gs, 0, none⟩ = some (.int .i64 (i : Int)) := (blk_cell BS.out 0).trans rfl; have hy1 : w7.cell? ⟨gs, 1, none⟩ = some (.int .i64 a2_1) := (blk_cell BS.out 1).trans rfl; obtain ⟨W1, cap, hconv, hbel, hfz, hci, hback⟩ := impl_Bolts_slid.conv w7 a1 i HI.out v; rw [HO.out] at hback; rw [← HBB.out] at hci; have hz0 : W1.cell? ⟨gs, 0, none⟩ = some (.int .i64 (i : Int)) := (hbel.cell (p := ⟨gs, 0, none⟩) hls).trans ((blk_cell BS.out 0).trans rfl); have hz1 : W1.cell? ⟨gs, 1, none⟩ = some (.int .i64 a2_1) := (hbel.cell (p := ⟨gs, 1, none⟩) hls).trans ((blk_cell BS.out 1).trans rfl); have HB2 := aM (show Below w.heap.size w ((W1.setCell ⟨w7.heap.size, i, none⟩ (.int .u8 (v.toNat : Int))).drew) from below_drew1 ((below_step HB.out hbel).setCell HB.out.size _)); have HK2 := aM (show ((W1.setCell ⟨w7.heap.size, i, none⟩ (.int .u8 (v.toNat : Int))).drew).heap[gb]? = some (.cells #[.slice A0_0 l0_0.length c0_0, .slice A0_1 l0_1.length c0_1] 31 (0, 0)) from blk_drew (blk_far (blk_below (g := gb) (o := .cells #[.slice A0_0 l0_0.length c0_0, .slice A0_1 l0_1.length c0_1] 31 (0, 0)) BK.out hbel) (Nat.ne_of_lt hlg) _)); have hv1 := HV.out.1; have hv2 := HV.out.2; have hv3 := HVM.out; clear hbel HB BK BS hlg hls))
     go_region
     have hq0 : ((W1.setCell ⟨w7.heap.size, i, none⟩ (.int .u8 (v.toNat : Int))).drew).cell? ⟨gb, 0, none⟩ = some (.slice A0_0 l0_0.length c0_0) := (blk_cell HK2.out 0).trans rfl
     have hq1 : ((W1.setCell ⟨w7.heap.size, i, none⟩ (.int .u8 (v.toNat : Int))).drew).cell? ⟨gb, 1, none⟩ = some (.slice A0_1 l0_1.length c0_1) := (blk_cell HK2.out 1).trans rfl
     generalize (W1.setCell ⟨w7.heap.size, i, none⟩ (.int .u8 (v.toNat : Int))).drew = w8 at hback HB2 HK2 hq0 hq1 ⊢
     go_wp2_with (first | (go_at_call 63; (with_reducible refine (impl_Bolts_isState.calls k A0_0 c0_0 l0_0 A0_1 c0_1 l0_1 out true _ (Kd.C_below HR0.out HB2.out) HC0.out (Kd.C_below HR1.out HB2.out) HC1.out HA3.out).mono ?_); rintro e w9 ⟨rfl, hb⟩; have HB9 := aM (below_step HB2.out hb); have BK9 := aM (blk_below (g := gb) (o := .cells #[.slice A0_0 l0_0.length c0_0, .slice A0_1 l0_1.length c0_1] 31 (0, 0)) HK2.out hb); have hx0 : w9.cell? ⟨gb, 0, none⟩ = some (.slice A0_0 l0_0.length c0_0) := (blk_cell BK9.out 0).trans rfl; have hx1 : w9.cell? ⟨gb, 1, none⟩ = some (.slice A0_1 l0_1.length c0_1) := (blk_cell BK9.out 1).trans rfl; clear hb) | (go_at_call 55; (with_reducible refine (impl_Bolts_allowed.calls k A0_0 c0_0 l0_0 A0_1 c0_1 l0_1 out bb w9 (Kd.C_below HR0.out HB9.out) HC0.out (Kd.C_below HR1.out HB9.out) HC1.out HA4.out).mono ?_); rintro e w10 ⟨rfl, hb⟩; have HB10 := aM (below_step HB9.out hb); clear hb))
     go_ret2
     exact ⟨rfl, HB10.out⟩

/-! ### impl_Bolts_slides: function 35 -/
mutual
def impl_Bolts_slides.l0 : Nat → ByteArray → List (S62) → Int → Int → List Int → List (S77) → Option ((List (S62)))
 | 0, _, _, _, _, _, _ => none
 | k + 1, x1, x5, x13, x14, x250000, x250001 => if x14 < x13 then ((some (([1, (-1)] : List Int) : List Int)).bind fun y250 => (impl_Bolts_slides.l1 k x1 x5 x14 x13 x14 y250 (y250.length : Int) 0 x250000 x250001)) else (some x5)
def impl_Bolts_slides.l1 : Nat → ByteArray → List (S62) → Int → Int → Int → List Int → Int → Int → List Int → List (S77) → Option ((List (S62)))
 | 0, _, _, _, _, _, _, _, _, _, _ => none
 | k + 1, x1, x5, x6, x13, x14, x17, x18, x19, x250000, x250001 => if x19 < x18 then (if 0 ≤ x19 then (if x19 < (x17.length : Int) then ((impl_Bolts_slid.f k x250000 x250001 x1 x6 (rd x17 x19)).bind fun bt255 => (if bt255.2 = true then (if x5.length < 8796093022208 then (impl_Bolts_slides.l1 k x1 (x5 ++ [(⟨x6, rd x17 x19⟩ : S62)]) x6 x13 x14 x17 x18 (wrap64 (x19 + 1)) x250000 x250001) else (none)) else (impl_Bolts_slides.l1 k x1 x5 x6 x13 x14 x17 x18 (wrap64 (x19 + 1)) x250000 x250001))) else (none)) else (none)) else (impl_Bolts_slides.l0 k x1 x5 x13 (wrap64 (x14 + 1)) x250000 x250001)
end
def impl_Bolts_slides.f (k : Nat) (l0_0 : List Int) (l0_1 : List (S77)) (a1 : ByteArray) : Option ((List (S62))) := impl_Bolts_slides.l0 k a1 ([] : List (S62)) (a1.size : Int) 0 l0_0 l0_1
theorem impl_Bolts_slides.mono_l : ∀ k, (∀ y0 y1 y2 y3 y4 y5, LeO (impl_Bolts_slides.l0 k y0 y1 y2 y3 y4 y5) (impl_Bolts_slides.l0 (k + 1) y0 y1 y2 y3 y4 y5)) ∧ (∀ y0 y1 y2 y3 y4 y5 y6 y7 y8 y9, LeO (impl_Bolts_slides.l1 k y0 y1 y2 y3 y4 y5 y6 y7 y8 y9) (impl_Bolts_slides.l1 (k + 1) y0 y1 y2 y3 y4 y5 y6 y7 y8 y9))
 | 0 => ⟨fun _ _ _ _ _ _ r h => by simp [impl_Bolts_slides.l0] at h, fun _ _ _ _ _ _ _ _ _ _ r h => by simp [impl_Bolts_slides.l1] at h⟩
 | k + 1 => by
  obtain ⟨ih0, ih1⟩ := impl_Bolts_slides.mono_l k
  refine ⟨?_, ?_⟩
  ·intro y0 y1 y2 y3 y4 y5
   unfold impl_Bolts_slides.l0
   repeat' first
   | (with_reducible exact ih0 _ _ _ _ _ _)
   | (with_reducible exact ih1 _ _ _ _ _ _ _ _ _ _)
   | (with_reducible exact impl_Bolts_slid.mono _ _ _ _ _ _)
   | (with_reducible exact LeO.refl _)
   | (with_reducible exact LeO.none _)
   | (with_reducible refine LeO.ite ?_ ?_)
   | (with_reducible refine LeO.bind ?_ (fun _ => ?_))
   | exact ih0 _ _ _ _ _ _
   | exact ih1 _ _ _ _ _ _ _ _ _ _
   | exact impl_Bolts_slid.mono _ _ _ _ _ _
   | exact LeO.none _
   | refine LeO.ite ?_ ?_
   | refine LeO.bind ?_ (fun _ => ?_)
  ·intro y0 y1 y2 y3 y4 y5 y6 y7 y8 y9
   unfold impl_Bolts_slides.l1
   repeat' first
   | (with_reducible exact ih0 _ _ _ _ _ _)
   | (with_reducible exact ih1 _ _ _ _ _ _ _ _ _ _)
   | (with_reducible exact impl_Bolts_slid.mono _ _ _ _ _ _)
   | (with_reducible exact LeO.refl _)
   | (with_reducible exact LeO.none _)
   | (with_reducible refine LeO.ite ?_ ?_)
   | (with_reducible refine LeO.bind ?_ (fun _ => ?_))
   | exact ih0 _ _ _ _ _ _
   | exact ih1 _ _ _ _ _ _ _ _ _ _
   | exact impl_Bolts_slid.mono _ _ _ _ _ _
   | exact LeO.none _
   | refine LeO.ite ?_ ?_
   | refine LeO.bind ?_ (fun _ => ?_)
theorem impl_Bolts_slides.mono : ∀ a0 a1 a2 k, LeO (impl_Bolts_slides.f k a0 a1 a2) (impl_Bolts_slides.f (k + 1) a0 a1 a2) := by
 intro a0 a1 a2 k
 obtain ⟨ih0, ih1⟩ := impl_Bolts_slides.mono_l k
 unfold impl_Bolts_slides.f
 repeat' first
   | (with_reducible exact ih0 _ _ _ _ _ _)
   | (with_reducible exact ih1 _ _ _ _ _ _ _ _ _ _)
   | (with_reducible exact impl_Bolts_slid.mono _ _ _ _ _ _)
   | (with_reducible exact LeO.refl _)
   | (with_reducible exact LeO.none _)
   | (with_reducible refine LeO.ite ?_ ?_)
   | (with_reducible refine LeO.bind ?_ (fun _ => ?_))
   | exact ih0 _ _ _ _ _ _
   | exact ih1 _ _ _ _ _ _ _ _ _ _
   | exact impl_Bolts_slid.mono _ _ _ _ _ _
   | exact LeO.none _
   | refine LeO.ite ?_ ?_
   | refine LeO.bind ?_ (fun _ => ?_)
set_option maxHeartbeats 8000000 in
set_option maxRecDepth 100000 in
theorem impl_Bolts_slides.calls (k : Nat) (A0_0 : Option Addr) (c0_0 : Nat) (l0_0 : List Int) (A0_1 : Option Addr) (c0_1 : Nat) (l0_1 : List (S77)) (a1 : ByteArray) (r : List (S62)) (w : World) (hr0_0 : Kd.C (Kd.int .i64) w A0_0 l0_0.length l0_0) (hc0_0 : l0_0.length ≤ c0_0) (hr0_1 : Kd.C k77 w A0_1 l0_1.length l0_1) (hc0_1 : l0_1.length ≤ c0_1) (h : impl_Bolts_slides.f k l0_0 l0_1 a1 = some r) :
  Calls Try.prog 35 #[.agg #[.slice A0_0 l0_0.length c0_0, .slice A0_1 l0_1.length c0_1], .string a1] w fun e w' => ∃ v0_ : Value, e = .returned (v0_) ∧ Kd.R k62 62 w' w.heap.size (fun _ => True) v0_ r ∧ Below w.heap.size w w' := by
 have hu31 := Try.underlying31
 have hu62 := Try.underlying62
 have HR0_0 := aM hr0_0
 have HC0_0 := aM hc0_0
 clear hr0_0 hc0_0
 have HR0_1 := aM hr0_1
 have HC0_1 := aM hc0_1
 clear hr0_1 hc0_1
 have HB := aM (Below.refl w.heap.size w)
 have H : (impl_Bolts_slides.l0 k a1 ([] : List (S62)) (a1.size : Int) 0 l0_0 l0_1) = some r := h
 clear h
 have H' := aM H
 clear H
 go_enter Try.func35, Try.ntmps35
 go_wp2_with (first | ((with_reducible refine gate_dst (N := 2) rfl ?_); refine box_event ?hg (N := 2) ?hd (cs := #[.slice A0_0 l0_0.length c0_0, .slice A0_1 l0_1.length c0_1]) (t := 31) ?hr ?_; (case hd => rfl); (case hg => rfl); (case hr => first | (go_simp; done) | (go_simp; rfl)); intro gb249 hg w3 hbox hb; have n0_ := aM (below_step (by repeat (first | (with_reducible first | exact HB.out | apply bA | apply bN | apply bD) | exact HB.out)) hb); have n1_ := aM (hbox); have n2_ := aM ((by rw [hg]; exact (below_size (by repeat (first | (with_reducible first | exact HB.out | apply bA | apply bN | apply bD) | exact HB.out))) : w.heap.size ≤ gb249)); have n3_ := aM ((by rw [hg]; exact (below_size (by repeat (first | (with_reducible first | exact HB.out | apply bA | apply bN | apply bD) | exact HB.out))) : w.heap.size ≤ gb249)); clear HB; have HB := n0_; have BK249 := n1_; have GW249 := n2_; have GE249 := n3_; clear n0_ n1_ n2_ n3_; clear hb hbox hg))
 go_loopg [5, 14] k (fun kq v5 v14 w' => ∃ (x5_1 : List (S62)) (x14_1 : Int), v14 = .int .i64 x14_1 ∧ Aside0 (impl_Bolts_slides.l0 kq a1 x5_1 (a1.size : Int) x14_1 l0_0 l0_1 = some r) ∧ Aside0 (kq ≤ k) ∧ Aside0 (Kd.R k62 62 w' w.heap.size (fun _ => True) v5 x5_1) ∧ Aside0 (w'.heap[gb249]? = some (.cells #[(.slice A0_0 l0_0.length c0_0), (.slice A0_1 l0_1.length c0_1)] 31 (0, 0))) ∧ Aside0 (Below w.heap.size w w'))
 case atStart => exact ⟨(([] : List (S62))), (0), (by first | rfl | (simp; done) | (simp [*]; done)), H', ⟨Nat.le_refl _⟩, ⟨by first | exact Kd.R_nil _ _ _ _ _ | exact Kd.N_nil _ _ _ _ _ | exact Kd.V_nil _ _ _ _ _ | exact Kd.Q_nil _ _ _ _ _ | exact Kd.S_nil _ _ _ _ _⟩, ⟨by (with_reducible repeat (first | refine kN ?_ _ | refine kD ?_ | refine kA ?_ _)); exact BK249.out⟩, ⟨by repeat (first | (with_reducible first | exact HB.out | apply bA | apply bN | apply bD | refine bS ?_ GE249.out) | exact HB.out)⟩⟩
 case round =>
  clear H'
  try clear p2
  try clear c3
  obtain ⟨x5_1, x14_1, rfl, HA, HK1, HO_5, BK249, HB⟩ := hrel
  cases gk with
  | zero => exact absurd HA.out (by simp [impl_Bolts_slides.l0])
  | succ k1 =>
   have H := HA.out
   clear HA
   simp only [impl_Bolts_slides.l0] at H
   by_cases c4 : x14_1 < (a1.size : Int)
   ·rw [if_pos c4] at H
    have c4b0 : decide (x14_1 < (a1.size : Int)) = true := decide_eq_true c4
    clear c4
    obtain ⟨y250, hy250⟩ : ∃ y_ : List Int, y_ = (([1, (-1)] : List Int)) := ⟨_, rfl⟩
    replace H : (impl_Bolts_slides.l1 k1 a1 x5_1 x14_1 (a1.size : Int) x14_1 y250 (y250.length : Int) 0 l0_0 l0_1) = some r := by first | (rw [hy250]; with_reducible exact H) | (have H2_ := (Option.bind_some _ _).symm.trans H; rw [hy250]; with_reducible exact H2_) | (have H2_ := (Option.bind_some _ _).symm.trans H; with_reducible exact H2_) | with_reducible exact H | (rw [hy250]; exact H) | exact H
    have Ny250 := aM hy250
    clear hy250
    have H' := aM H
    clear H
    go_wp2_with (first | ((with_reducible refine gate_dst (N := 17) rfl ?_); refine Kd.R_lit (Kd.int .i64) _ 3 ?hg (N := 17) ?hd (xs := ([1, (-1)] : List Int)) (inner := [.int .i64 1, .int .i64 (-1)]) (ok := fun _ => True) (okp := fun _ => True) ?hr ?hp (fun _ hk => hk) trivial (Below.refl _ _) (Nat.le_refl _) (by simp) ?_; (case hd => rfl); (case hg => rfl); (case hr => first | (go_simp; done) | (go_simp; rfl)); (case hp => exact (Reps.one (show Kd.M (Kd.int .i64) _ _ _ 1 [.int .i64 1] from rfl) (Reps.one (show Kd.M (Kd.int .i64) _ _ _ (-1) [.int .i64 (-1)] from rfl) (Reps.none _ _)))); intro v251 w5 ho6 hb hg_ hnew_; clear hg_ hnew_; (first | rw [← Ny250.out] at ho6 | (simp only [Int.reduceToNat] at ho6; rw [← Ny250.out] at ho6)); have n0_ := aM (Kd.R_below (by (with_reducible repeat (first | apply rA | apply rN | apply rD)); exact HO_5.out) hb); have n1_ := aM (Kd.R_lower ho6 (below_size (by repeat (first | (with_reducible first | exact HB.out | apply bA | apply bN | apply bD | refine bS ?_ GE249.out) | exact HB.out)))); have n2_ := aM (blk_below (g := gb249) (o := .cells #[.slice A0_0 l0_0.length c0_0, .slice A0_1 l0_1.length c0_1] 31 (0, 0)) (by (with_reducible repeat (first | refine kN ?_ _ | refine kD ?_ | refine kA ?_ _)); exact BK249.out) hb); have n3_ := aM (below_step (by repeat (first | (with_reducible first | exact HB.out | apply bA | apply bN | apply bD | refine bS ?_ GE249.out) | exact HB.out)) hb); clear HO_5; clear BK249; clear HB; have HO_5 := n0_; have HO252 := n1_; have BK249 := n2_; have HB := n3_; clear n0_ n1_ n2_ n3_; clear hb ho6; obtain ⟨Ao7, co7, eo7⟩ := Kd.R_slice HO252.out; subst eo7))
    go_loopg [5, 19] k1 (fun kq v5 v19 w' => ∃ (x5_2 : List (S62)) (x19_2 : Int), v19 = .int .i64 x19_2 ∧ Aside0 (impl_Bolts_slides.l1 kq a1 x5_2 x14_1 (a1.size : Int) x14_1 y250 (y250.length : Int) x19_2 l0_0 l0_1 = some r) ∧ Aside0 (kq ≤ k1) ∧ Aside0 (Kd.R k62 62 w' w.heap.size (fun _ => True) v5 x5_2) ∧ Aside0 (Kd.R (Kd.int .i64) 3 w' w.heap.size (fun _ => True) (.slice Ao7 y250.length co7) y250) ∧ Aside0 (w'.heap[gb249]? = some (.cells #[(.slice A0_0 l0_0.length c0_0), (.slice A0_1 l0_1.length c0_1)] 31 (0, 0))) ∧ Aside0 (Below w.heap.size w w'))
    case atStart => exact ⟨(x5_1), (0), (by first | rfl | (simp; done) | (simp [*]; done)), H', ⟨Nat.le_refl _⟩, ⟨by (with_reducible repeat (first | apply rA | apply rN | apply rD)); exact HO_5.out⟩, ⟨by (with_reducible repeat (first | apply rA | apply rN | apply rD)); exact HO252.out⟩, ⟨by (with_reducible repeat (first | refine kN ?_ _ | refine kD ?_ | refine kA ?_ _)); exact BK249.out⟩, ⟨by repeat (first | (with_reducible first | exact HB.out | apply bA | apply bN | apply bD | refine bS ?_ GE249.out) | exact HB.out)⟩⟩
    case round =>
     clear H'
     try clear p2
     try clear c3
     try clear c4
     try clear c4b0
     try clear p2
     obtain ⟨x5_2, x19_2, rfl, HA, HK2, HO_5, HO_17, BK249, HB⟩ := hrel
     cases gk with
     | zero => exact absurd HA.out (by simp [impl_Bolts_slides.l1])
     | succ k2 =>
      have H := HA.out
      clear HA
      simp only [impl_Bolts_slides.l1] at H
      by_cases c8 : x19_2 < (y250.length : Int)
      ·rw [if_pos c8] at H
       have c8b0 : decide (x19_2 < (y250.length : Int)) = true := decide_eq_true c8
       clear c8
       by_cases c9 : 0 ≤ x19_2
       ·rw [if_pos c9] at H
        have c9b0 : decide (0 ≤ x19_2) = true := decide_eq_true c9
        clear c9
        by_cases c10 : x19_2 < (y250.length : Int)
        ·rw [if_pos c10] at H
         have c10b0 : decide (x19_2 < (y250.length : Int)) = true := decide_eq_true c10
         clear c10
         replace H := Option.bind_eq_some_iff.mp H
         obtain ⟨⟨t255, t256⟩, A110, H⟩ := H
         replace H : (if t256 = true then (if x5_2.length < 8796093022208 then (impl_Bolts_slides.l1 k2 a1 (x5_2 ++ [(⟨x14_1, rd y250 x19_2⟩ : S62)]) x14_1 (a1.size : Int) x14_1 y250 (y250.length : Int) (wrap64 (x19_2 + 1)) l0_0 l0_1) else (none)) else (impl_Bolts_slides.l1 k2 a1 x5_2 x14_1 (a1.size : Int) x14_1 y250 (y250.length : Int) (wrap64 (x19_2 + 1)) l0_0 l0_1)) = some r := H
         have A11 := aM A110
         clear A110
         by_cases c12 : t256 = true
         ·subst c12
          have H1 : (if x5_2.length < 8796093022208 then (impl_Bolts_slides.l1 k2 a1 (x5_2 ++ [(⟨x14_1, rd y250 x19_2⟩ : S62)]) x14_1 (a1.size : Int) x14_1 y250 (y250.length : Int) (wrap64 (x19_2 + 1)) l0_0 l0_1) else (none)) = some r := by rw [if_pos rfl] at H; exact H
          clear H; have H := H1; clear H1
          by_cases c13 : x5_2.length < 8796093022208
          ·rw [if_pos c13] at H
           have LMc13 := aM c13
           clear c13
           obtain ⟨y257, hy257⟩ : ∃ y_ : List (S62), y_ = (x5_2 ++ [(⟨x14_1, rd y250 x19_2⟩ : S62)]) := ⟨_, rfl⟩
           replace H : (impl_Bolts_slides.l1 k2 a1 y257 x14_1 (a1.size : Int) x14_1 y250 (y250.length : Int) (wrap64 (x19_2 + 1)) l0_0 l0_1) = some r := by first | (rw [hy257]; with_reducible exact H) | (have H2_ := (Option.bind_some _ _).symm.trans H; rw [hy257]; with_reducible exact H2_) | (have H2_ := (Option.bind_some _ _).symm.trans H; with_reducible exact H2_) | with_reducible exact H | (rw [hy257]; exact H) | exact H
           have Ny257 := aM hy257
           clear hy257
           have H' := aM H
           clear H
           have p253 : 0 ≤ (x19_2 : Int) := of_decide_eq_true (by first | (with_reducible assumption) | assumption)
           have q253 : x19_2 < (y250.length : Int) := of_decide_eq_true (by first | (with_reducible assumption) | assumption)
           obtain ⟨ad253, e253, hx253_0⟩ := Kd.at_int (Kd.R_reads' HO_17.out).2.2 x19_2 p253 q253
           cases e253
           replace p253 := eq_true p253
           replace q253 := eq_true q253
           go_wp2_with (first | ((with_reducible refine gate_dst (N := 9) rfl ?_); refine box_event ?hg (N := 9) ?hd (cs := #[.int .i64 0, .int .i64 0]) (t := 62) ?hr ?_; (case hd => rfl); (case hg => rfl); (case hr => first | (go_simp; done) | (go_simp; rfl)); intro gb254 hg w14 hbox hb; have n0_ := aM (Kd.R_below (Kd.R_elderB (by (with_reducible repeat (first | apply rA | apply rN | apply rD)); exact HO_5.out) gb254 (Nat.le_of_eq hg.symm)) hb); have n1_ := aM (Kd.R_below (by (with_reducible repeat (first | apply rA | apply rN | apply rD)); exact HO_17.out) hb); have n2_ := aM (blk_below (g := gb249) (o := .cells #[.slice A0_0 l0_0.length c0_0, .slice A0_1 l0_1.length c0_1] 31 (0, 0)) (by (with_reducible repeat (first | refine kN ?_ _ | refine kD ?_ | refine kA ?_ _)); exact BK249.out) hb); have n3_ := aM (below_step (by repeat (first | (with_reducible first | exact HB.out | apply bA | apply bN | apply bD | refine bS ?_ GE249.out) | exact HB.out)) hb); have n4_ := aM (hbox); have n5_ := aM ((by rw [hg]; exact (below_size (by repeat (first | (with_reducible first | exact HB.out | apply bA | apply bN | apply bD | refine bS ?_ GE249.out) | exact HB.out))) : w.heap.size ≤ gb254)); have n6_ := aM ((by rw [hg]; exact (below_size (by repeat (first | (with_reducible first | exact HB.out | apply bA | apply bN | apply bD | refine bS ?_ GE249.out) | exact HB.out))) : w.heap.size ≤ gb254)); have n7_ := aM ((by rw [hg]; exact Nat.ne_of_lt (blk_lt (g := gb249) (o := .cells #[.slice A0_0 l0_0.length c0_0, .slice A0_1 l0_1.length c0_1] 31 (0, 0)) (by (with_reducible repeat (first | refine kN ?_ _ | refine kD ?_ | refine kA ?_ _)); exact BK249.out)) : gb249 ≠ gb254)); have n8_ := aM ((by rw [hg]; exact Nat.ne_of_gt (blk_lt (g := gb249) (o := .cells #[.slice A0_0 l0_0.length c0_0, .slice A0_1 l0_1.length c0_1] 31 (0, 0)) (by (with_reducible repeat (first | refine kN ?_ _ | refine kD ?_ | refine kA ?_ _)); exact BK249.out)) : gb254 ≠ gb249)); clear HO_5; clear HO_17; clear BK249; clear HB; have HO_5 := n0_; have HO_17 := n1_; have BK249 := n2_; have HB := n3_; have BK254 := n4_; have GW254 := n5_; have GE254 := n6_; have NB249_254 := n7_; have NB254_249 := n8_; clear n0_ n1_ n2_ n3_ n4_ n5_ n6_ n7_ n8_; clear hb hbox hg; have hnb15 := NB254_249.out; have hnc15 := NB249_254.out; have hcz16_0 : w14.cell? ⟨gb254, 0, none⟩ = some (.int .i64 0) := (blk_cell BK254.out 0).trans rfl; have hcz16_1 : w14.cell? ⟨gb254, 1, none⟩ = some (.int .i64 0) := (blk_cell BK254.out 1).trans rfl; have hfz16_0 := blk_frozen BK254.out 0; have hfz16_1 := blk_frozen BK254.out 1; have hcz17_0 : w14.cell? ⟨gb249, 0, none⟩ = some (.slice A0_0 l0_0.length c0_0) := (blk_cell BK249.out 0).trans rfl; have hcz17_1 : w14.cell? ⟨gb249, 1, none⟩ = some (.slice A0_1 l0_1.length c0_1) := (blk_cell BK249.out 1).trans rfl; have hfz17_0 := blk_frozen BK249.out 0; have hfz17_1 := blk_frozen BK249.out 1) | ((with_reducible refine gate_callee (f := 36) rfl ?_); refine goesL_ (some 30) rfl rfl Try.func36 (by kernel_rfl) rfl #[.agg #[.slice A0_0 l0_0.length c0_0, .slice A0_1 l0_1.length c0_1], .string a1, .agg #[.int .i64 x14_1, .int .i64 (rd y250 x19_2)]] rfl (by (try simp only [List.map_toArray, List.map_cons, List.map_nil]); first | done | rfl | (simp only [List.length_drop, List.length_take]; rfl)) ?_; (with_reducible refine (impl_Bolts_slid.calls k2 _ _ l0_0 _ _ l0_1 a1 x14_1 (rd y250 x19_2) t255 true _ ?side1 ?side2 ?side3 ?side4 A11.out).mono ?_); (case side1 => exact Kd.C_below HR0_0.out (by repeat (first | (with_reducible first | exact HB.out | apply bA | apply bN | apply bD | refine bS ?_ GE249.out | refine bS ?_ GE254.out) | exact HB.out))); (case side2 => exact HC0_0.out); (case side3 => exact Kd.C_below HR0_1.out (by repeat (first | (with_reducible first | exact HB.out | apply bA | apply bN | apply bD | refine bS ?_ GE249.out | refine bS ?_ GE254.out) | exact HB.out))); (case side4 => exact HC0_1.out); rintro e w18 ⟨rfl, hb⟩; refine ⟨_, rfl, ?_⟩; have n0_ := aM (Kd.R_below (by (with_reducible repeat (first | apply rA | apply rN | apply rD)); exact (Kd.R_mono (Kd.R_far (p := ⟨gb254, 1, none⟩) (Kd.R_far (p := ⟨gb254, 0, none⟩) (Kd.R_mono HO_5.out (fun k_ hk => (⟨hk, hk.2⟩ : _ ∧ k_ ≠ gb254))) (fun _ hk => hk.2) (.int .i64 x14_1)) (fun _ hk => hk.2) (.int .i64 (rd y250 x19_2))) (fun _ h_ => h_.1))) hb); have n1_ := aM (Kd.R_below (by (with_reducible repeat (first | apply rA | apply rN | apply rD)); exact (Kd.R_mono (Kd.R_far (p := ⟨gb254, 1, none⟩) (Kd.R_far (p := ⟨gb254, 0, none⟩) (Kd.R_types HO_17.out BK254.out (by decide)) (fun _ hk => hk.2) (.int .i64 x14_1)) (fun _ hk => hk.2) (.int .i64 (rd y250 x19_2))) (fun _ h_ => h_.1))) hb); have n2_ := aM (blk_below (g := gb249) (o := .cells #[.slice A0_0 l0_0.length c0_0, .slice A0_1 l0_1.length c0_1] 31 (0, 0)) (by (with_reducible repeat (first | refine kN ?_ _ | refine kD ?_ | refine kA ?_ _)); refine blk_far ?_ NB249_254.out _; (with_reducible repeat (first | refine kN ?_ _ | refine kD ?_ | refine kA ?_ _)); refine blk_far ?_ NB249_254.out _; (with_reducible repeat (first | refine kN ?_ _ | refine kD ?_ | refine kA ?_ _)); exact BK249.out) hb); have n3_ := aM (blk_below (g := gb254) (o := .cells #[.int .i64 x14_1, .int .i64 (rd y250 x19_2)] 62 (0, 0)) (by (with_reducible repeat (first | refine kN ?_ _ | refine kD ?_ | refine kA ?_ _)); refine blk_put (cs := #[.int .i64 x14_1, .int .i64 0]) ?_ 1 _ rfl; (with_reducible repeat (first | refine kN ?_ _ | refine kD ?_ | refine kA ?_ _)); refine blk_put (cs := #[.int .i64 0, .int .i64 0]) ?_ 0 _ rfl; (with_reducible repeat (first | refine kN ?_ _ | refine kD ?_ | refine kA ?_ _)); exact BK254.out) hb); have n4_ := aM (below_step (by repeat (first | (with_reducible first | exact HB.out | apply bA | apply bN | apply bD | refine bS ?_ GE249.out | refine bS ?_ GE254.out) | exact HB.out)) hb); clear HO_5; clear HO_17; clear BK249; clear BK254; clear HB; have HO_5 := n0_; have HO_17 := n1_; have BK249 := n2_; have BK254 := n3_; have HB := n4_; clear n0_ n1_ n2_ n3_ n4_; (try clear hb); (try clear hb2); (try clear hk); (try clear hi); have hcz19_0 : w18.cell? ⟨gb254, 0, none⟩ = some (.int .i64 x14_1) := (blk_cell BK254.out 0).trans rfl; have hcz19_1 : w18.cell? ⟨gb254, 1, none⟩ = some (.int .i64 (rd y250 x19_2)) := (blk_cell BK254.out 1).trans rfl; have hfz19_0 := blk_frozen BK254.out 0; have hfz19_1 := blk_frozen BK254.out 1) | ((with_reducible refine gate_builtin (b := .append) (xs := #[.tmp 34, .tmp 36]) rfl ?_); at_builtin; refine Kd.R_append k62 (w0 := w) w.heap.size rfl (.tmp 34) (.tmp 36) 35 62 (.agg #[(.int .i64 0), (.int .i64 0)]) 16 rfl Try.underlying35 info62 rfl (by decide) (by omega) u5 x5_2 (⟨x14_1, rd y250 x19_2⟩ : S62) [.int .i64 x14_1, .int .i64 (rd y250 x19_2)] (fun k_ => k_ ≠ gb254) (fun _ => False) rfl rfl ?aP (fun _ hk => hk.elim) ?aF ?aO ?aB ?aS ?aL ?_; (case aP => exact k62_mkM _ _ _ (⟨x14_1, rd y250 x19_2⟩ : S62)); (case aB => exact (by repeat (first | (with_reducible first | exact HB.out | apply bA | apply bN | apply bD | refine bS ?_ GE249.out | refine bS ?_ GE254.out) | exact HB.out))); (case aF => exact (fun k_ hk => Kd.freshB (g := gb254) (o := .cells #[.int .i64 x14_1, .int .i64 (rd y250 x19_2)] 62 (0, 0)) (by (with_reducible repeat (first | refine kN ?_ _ | refine kD ?_ | refine kA ?_ _)); exact BK254.out) k_ hk)); (case aO => exact (by (with_reducible repeat (first | apply rA | apply rN | apply rD)); exact Kd.R_mono HO_5.out (fun _ hk => hk.2))); (case aS => exact (below_size (by repeat (first | (with_reducible first | exact HB.out | apply bA | apply bN | apply bD | refine bS ?_ GE249.out | refine bS ?_ GE254.out) | exact HB.out)))); (case aL => have := LMc13.out; omega); intro v258 w20 ho hb hg hat; rw [← Ny257.out] at ho; have n0_ := aM (Kd.R_over' (by (with_reducible repeat (first | apply rA | apply rN | apply rD)); exact HO_17.out) (Kd.R_typed (by (with_reducible repeat (first | apply rA | apply rN | apply rD)); exact HO_5.out)) (by decide) hg); have n1_ := aM (blk_grown (g := gb249) (o := .cells #[.slice A0_0 l0_0.length c0_0, .slice A0_1 l0_1.length c0_1] 31 (0, 0)) (by (with_reducible repeat (first | refine kN ?_ _ | refine kD ?_ | refine kA ?_ _)); exact BK249.out) hg (Kd.R_ne HO_5.out BK249.out (by decide))); have n2_ := aM (blk_grown (g := gb254) (o := .cells #[.int .i64 x14_1, .int .i64 (rd y250 x19_2)] 62 (0, 0)) (by (with_reducible repeat (first | refine kN ?_ _ | refine kD ?_ | refine kA ?_ _)); exact BK254.out) hg (Kd.R_away HO_5.out (fun _ hk => hk.2))); have n3_ := aM (hb); have n4_ := aM (ho); clear HO_17; clear BK249; clear BK254; clear HB; clear HO_5; have HO_17 := n0_; have BK249 := n1_; have BK254 := n2_; have HB := n3_; have HO259 := n4_; clear n0_ n1_ n2_ n3_ n4_; clear ho hb hg hat))
           go_roundg k2
           case measure => have := HK1.out; have := HK2.out; omega
           case rel => exact ⟨(y257), (wrap64 (x19_2 + 1)), (by first | rfl | (simp; done) | (simp [*]; done)), H', ⟨by have := HK1.out; have := HK2.out; omega⟩, ⟨by (with_reducible repeat (first | apply rA | apply rN | apply rD)); exact Kd.R_mono HO259.out (fun _ hk => trivial)⟩, ⟨by (with_reducible repeat (first | apply rA | apply rN | apply rD)); exact HO_17.out⟩, ⟨by (with_reducible repeat (first | refine kN ?_ _ | refine kD ?_ | refine kA ?_ _)); exact BK249.out⟩, ⟨by repeat (first | (with_reducible first | exact HB.out | apply bA | apply bN | apply bD | refine bS ?_ GE249.out | refine bS ?_ GE254.out) | exact HB.out)⟩⟩
          ·rw [if_neg c13] at H
           exact absurd H (by simp)
         ·replace c12 := Bool.eq_false_iff.mpr c12
          subst c12
          have H1 : (impl_Bolts_slides.l1 k2 a1 x5_2 x14_1 (a1.size : Int) x14_1 y250 (y250.length : Int) (wrap64 (x19_2 + 1)) l0_0 l0_1) = some r := by rw [if_neg (show ¬ (false = true) by decide)] at H; exact H
          clear H; have H := H1; clear H1
          have H' := aM H
          clear H
          have p253 : 0 ≤ (x19_2 : Int) := of_decide_eq_true (by first | (with_reducible assumption) | assumption)
          have q253 : x19_2 < (y250.length : Int) := of_decide_eq_true (by first | (with_reducible assumption) | assumption)
          obtain ⟨ad253, e253, hx253_0⟩ := Kd.at_int (Kd.R_reads' HO_17.out).2.2 x19_2 p253 q253
          cases e253
          replace p253 := eq_true p253
          replace q253 := eq_true q253
          go_wp2_with (first | ((with_reducible refine gate_dst (N := 9) rfl ?_); refine box_event ?hg (N := 9) ?hd (cs := #[.int .i64 0, .int .i64 0]) (t := 62) ?hr ?_; (case hd => rfl); (case hg => rfl); (case hr => first | (go_simp; done) | (go_simp; rfl)); intro gb254 hg w21 hbox hb; have n0_ := aM (Kd.R_below (Kd.R_elderB (by (with_reducible repeat (first | apply rA | apply rN | apply rD)); exact HO_5.out) gb254 (Nat.le_of_eq hg.symm)) hb); have n1_ := aM (Kd.R_below (by (with_reducible repeat (first | apply rA | apply rN | apply rD)); exact HO_17.out) hb); have n2_ := aM (blk_below (g := gb249) (o := .cells #[.slice A0_0 l0_0.length c0_0, .slice A0_1 l0_1.length c0_1] 31 (0, 0)) (by (with_reducible repeat (first | refine kN ?_ _ | refine kD ?_ | refine kA ?_ _)); exact BK249.out) hb); have n3_ := aM (below_step (by repeat (first | (with_reducible first | exact HB.out | apply bA | apply bN | apply bD | refine bS ?_ GE249.out) | exact HB.out)) hb); have n4_ := aM (hbox); have n5_ := aM ((by rw [hg]; exact (below_size (by repeat (first | (with_reducible first | exact HB.out | apply bA | apply bN | apply bD | refine bS ?_ GE249.out) | exact HB.out))) : w.heap.size ≤ gb254)); have n6_ := aM ((by rw [hg]; exact (below_size (by repeat (first | (with_reducible first | exact HB.out | apply bA | apply bN | apply bD | refine bS ?_ GE249.out) | exact HB.out))) : w.heap.size ≤ gb254)); have n7_ := aM ((by rw [hg]; exact Nat.ne_of_lt (blk_lt (g := gb249) (o := .cells #[.slice A0_0 l0_0.length c0_0, .slice A0_1 l0_1.length c0_1] 31 (0, 0)) (by (with_reducible repeat (first | refine kN ?_ _ | refine kD ?_ | refine kA ?_ _)); exact BK249.out)) : gb249 ≠ gb254)); have n8_ := aM ((by rw [hg]; exact Nat.ne_of_gt (blk_lt (g := gb249) (o := .cells #[.slice A0_0 l0_0.length c0_0, .slice A0_1 l0_1.length c0_1] 31 (0, 0)) (by (with_reducible repeat (first | refine kN ?_ _ | refine kD ?_ | refine kA ?_ _)); exact BK249.out)) : gb254 ≠ gb249)); clear HO_5; clear HO_17; clear BK249; clear HB; have HO_5 := n0_; have HO_17 := n1_; have BK249 := n2_; have HB := n3_; have BK254 := n4_; have GW254 := n5_; have GE254 := n6_; have NB249_254 := n7_; have NB254_249 := n8_; clear n0_ n1_ n2_ n3_ n4_ n5_ n6_ n7_ n8_; clear hb hbox hg; have hnb22 := NB254_249.out; have hnc22 := NB249_254.out; have hcz23_0 : w21.cell? ⟨gb254, 0, none⟩ = some (.int .i64 0) := (blk_cell BK254.out 0).trans rfl; have hcz23_1 : w21.cell? ⟨gb254, 1, none⟩ = some (.int .i64 0) := (blk_cell BK254.out 1).trans rfl; have hfz23_0 := blk_frozen BK254.out 0; have hfz23_1 := blk_frozen BK254.out 1; have hcz24_0 : w21.cell? ⟨gb249, 0, none⟩ = some (.slice A0_0 l0_0.length c0_0) := (blk_cell BK249.out 0).trans rfl; have hcz24_1 : w21.cell? ⟨gb249, 1, none⟩ = some (.slice A0_1 l0_1.length c0_1) := (blk_cell BK249.out 1).trans rfl; have hfz24_0 := blk_frozen BK249.out 0; have hfz24_1 := blk_frozen BK249.out 1) | ((with_reducible refine gate_callee (f := 36) rfl ?_); refine goesL_ (some 30) rfl rfl Try.func36 (by kernel_rfl) rfl #[.agg #[.slice A0_0 l0_0.length c0_0, .slice A0_1 l0_1.length c0_1], .string a1, .agg #[.int .i64 x14_1, .int .i64 (rd y250 x19_2)]] rfl (by (try simp only [List.map_toArray, List.map_cons, List.map_nil]); first | done | rfl | (simp only [List.length_drop, List.length_take]; rfl)) ?_; (with_reducible refine (impl_Bolts_slid.calls k2 _ _ l0_0 _ _ l0_1 a1 x14_1 (rd y250 x19_2) t255 false _ ?side1 ?side2 ?side3 ?side4 A11.out).mono ?_); (case side1 => exact Kd.C_below HR0_0.out (by repeat (first | (with_reducible first | exact HB.out | apply bA | apply bN | apply bD | refine bS ?_ GE249.out | refine bS ?_ GE254.out) | exact HB.out))); (case side2 => exact HC0_0.out); (case side3 => exact Kd.C_below HR0_1.out (by repeat (first | (with_reducible first | exact HB.out | apply bA | apply bN | apply bD | refine bS ?_ GE249.out | refine bS ?_ GE254.out) | exact HB.out))); (case side4 => exact HC0_1.out); rintro e w25 ⟨rfl, hb⟩; refine ⟨_, rfl, ?_⟩; have n0_ := aM (Kd.R_below (by (with_reducible repeat (first | apply rA | apply rN | apply rD)); exact (Kd.R_mono (Kd.R_far (p := ⟨gb254, 1, none⟩) (Kd.R_far (p := ⟨gb254, 0, none⟩) (Kd.R_mono HO_5.out (fun k_ hk => (⟨hk, hk.2⟩ : _ ∧ k_ ≠ gb254))) (fun _ hk => hk.2) (.int .i64 x14_1)) (fun _ hk => hk.2) (.int .i64 (rd y250 x19_2))) (fun _ h_ => h_.1))) hb); have n1_ := aM (Kd.R_below (by (with_reducible repeat (first | apply rA | apply rN | apply rD)); exact (Kd.R_mono (Kd.R_far (p := ⟨gb254, 1, none⟩) (Kd.R_far (p := ⟨gb254, 0, none⟩) (Kd.R_types HO_17.out BK254.out (by decide)) (fun _ hk => hk.2) (.int .i64 x14_1)) (fun _ hk => hk.2) (.int .i64 (rd y250 x19_2))) (fun _ h_ => h_.1))) hb); have n2_ := aM (blk_below (g := gb249) (o := .cells #[.slice A0_0 l0_0.length c0_0, .slice A0_1 l0_1.length c0_1] 31 (0, 0)) (by (with_reducible repeat (first | refine kN ?_ _ | refine kD ?_ | refine kA ?_ _)); refine blk_far ?_ NB249_254.out _; (with_reducible repeat (first | refine kN ?_ _ | refine kD ?_ | refine kA ?_ _)); refine blk_far ?_ NB249_254.out _; (with_reducible repeat (first | refine kN ?_ _ | refine kD ?_ | refine kA ?_ _)); exact BK249.out) hb); have n3_ := aM (blk_below (g := gb254) (o := .cells #[.int .i64 x14_1, .int .i64 (rd y250 x19_2)] 62 (0, 0)) (by (with_reducible repeat (first | refine kN ?_ _ | refine kD ?_ | refine kA ?_ _)); refine blk_put (cs := #[.int .i64 x14_1, .int .i64 0]) ?_ 1 _ rfl; (with_reducible repeat (first | refine kN ?_ _ | refine kD ?_ | refine kA ?_ _)); refine blk_put (cs := #[.int .i64 0, .int .i64 0]) ?_ 0 _ rfl; (with_reducible repeat (first | refine kN ?_ _ | refine kD ?_ | refine kA ?_ _)); exact BK254.out) hb); have n4_ := aM (below_step (by repeat (first | (with_reducible first | exact HB.out | apply bA | apply bN | apply bD | refine bS ?_ GE249.out | refine bS ?_ GE254.out) | exact HB.out)) hb); clear HO_5; clear HO_17; clear BK249; clear BK254; clear HB; have HO_5 := n0_; have HO_17 := n1_; have BK249 := n2_; have BK254 := n3_; have HB := n4_; clear n0_ n1_ n2_ n3_ n4_; (try clear hb); (try clear hb2); (try clear hk); (try clear hi)))
          go_roundg k2
          case measure => have := HK1.out; have := HK2.out; omega
          case rel => exact ⟨(x5_2), (wrap64 (x19_2 + 1)), (by first | rfl | (simp; done) | (simp [*]; done)), H', ⟨by have := HK1.out; have := HK2.out; omega⟩, ⟨by (with_reducible repeat (first | apply rA | apply rN | apply rD)); exact Kd.R_mono HO_5.out (fun _ hk => trivial)⟩, ⟨by (with_reducible repeat (first | apply rA | apply rN | apply rD)); exact HO_17.out⟩, ⟨by (with_reducible repeat (first | refine kN ?_ _ | refine kD ?_ | refine kA ?_ _)); exact BK249.out⟩, ⟨by repeat (first | (with_reducible first | exact HB.out | apply bA | apply bN | apply bD | refine bS ?_ GE249.out | refine bS ?_ GE254.out) | exact HB.out)⟩⟩
        ·rw [if_neg c10] at H
         exact absurd H (by simp)
       ·rw [if_neg c9] at H
        exact absurd H (by simp)
      ·rw [if_neg c8] at H
       have c8b0 : decide (x19_2 < (y250.length : Int)) = false := decide_eq_false c8
       clear c8
       have H' := aM H
       clear H
       go_wp2
       go_roundg k2
       case measure => have := HK1.out; have := HK2.out; omega
       case rel => exact ⟨(x5_2), (wrap64 (x14_1 + 1)), (by first | rfl | (simp; done) | (simp [*]; done)), H', ⟨by have := HK1.out; have := HK2.out; omega⟩, ⟨by (with_reducible repeat (first | apply rA | apply rN | apply rD)); exact HO_5.out⟩, ⟨by (with_reducible repeat (first | refine kN ?_ _ | refine kD ?_ | refine kA ?_ _)); exact BK249.out⟩, ⟨by repeat (first | (with_reducible first | exact HB.out | apply bA | apply bN | apply bD | refine bS ?_ GE249.out) | exact HB.out)⟩⟩
   ·rw [if_neg c4] at H
    have c4b0 : decide (x14_1 < (a1.size : Int)) = false := decide_eq_false c4
    clear c4
    obtain rfl := Option.some.inj H
    go_wp2
    go_ret
    exact ⟨_, by first | rfl | (simp [errW_none, errW_some] <;> rfl) | (simp [*, errW_none, errW_some] <;> rfl), by (with_reducible repeat (first | apply rA | apply rN | apply rD)); exact HO_5.out, by repeat (first | (with_reducible first | exact HB.out | apply bA | apply bN | apply bD | refine bS ?_ GE249.out) | exact HB.out)⟩

/-! ### impl_Bolts_search_1: function 57 (told by hand) -/
/-- The function value of a search: the states behind all slides of a state. -/
def impl_Bolts_search_1.l0 (l0 : List Int) (l1 : List S77) (s : ByteArray) : Nat → List S62 → List ByteArray → Int → Option (List ByteArray)
 | 0, _, _, _ => none
 | k + 1, ms, x, i => if i < (ms.length : Int) then (if 0 ≤ i then ((impl_Bolts_slid.f k l0 l1 s ((rd_T62 ms i).f0) ((rd_T62 ms i).f1)).bind fun t => if x.length < 8796093022208 then impl_Bolts_search_1.l0 l0 l1 s k ms (x ++ [t.1]) (wrap64 (i + 1)) else none) else none) else some x
def impl_Bolts_search_1.f (l0 : List Int) (l1 : List S77) (k : Nat) (s : ByteArray) : Option (List ByteArray) := (impl_Bolts_slides.f k l0 l1 s).bind fun ms => impl_Bolts_search_1.l0 l0 l1 s k ms [] 0
theorem impl_Bolts_search_1.mono_l (l0 : List Int) (l1 : List S77) (s : ByteArray) : ∀ k ms x i, LeO (impl_Bolts_search_1.l0 l0 l1 s k ms x i) (impl_Bolts_search_1.l0 l0 l1 s (k + 1) ms x i)
 | 0, _, _, _ => fun r h => by simp [impl_Bolts_search_1.l0] at h
 | k + 1, ms, x, i => by
  unfold impl_Bolts_search_1.l0
  exact LeO.ite (LeO.ite (LeO.bind (impl_Bolts_slid.mono _ _ _ _ _ _) (fun _ => LeO.ite (impl_Bolts_search_1.mono_l l0 l1 s k _ _ _) (LeO.none _))) (LeO.none _)) (LeO.refl _)
theorem impl_Bolts_search_1.mono (l0 : List Int) (l1 : List S77) : ∀ s n, LeO (impl_Bolts_search_1.f l0 l1 n s) (impl_Bolts_search_1.f l0 l1 (n + 1) s) := fun s n =>
 LeO.bind (impl_Bolts_slides.mono _ _ _ _) (fun _ => impl_Bolts_search_1.mono_l l0 l1 s n _ _ _)
set_option maxHeartbeats 8000000 in
set_option maxRecDepth 100000 in
theorem impl_Bolts_search_1.calls (B : Nat) (A0 : Option Addr) (c0 : Nat) (l0 : List Int) (A1 : Option Addr) (c1 : Nat) (l1 : List S77) (k : Nat) (s : ByteArray) (ts : List ByteArray) (w : World) (hbk : w.heap[B]? = some (.cells #[.slice A0 l0.length c0, .slice A1 l1.length c1] 31 (0, 0)))
  (hr0 : Kd.C (Kd.int .i64) w A0 l0.length l0) (hc0 : l0.length ≤ c0) (hr1 : Kd.C k77 w A1 l1.length l1) (hc1 : l1.length ≤ c1) (h : impl_Bolts_search_1.f l0 l1 k s = some ts) :
  Calls Try.prog 57 (#[.string s] ++ #[.pointer (some ⟨B, 0, none⟩)]) w fun e w' => ∃ v, e = .returned v ∧ Kd.R Kd.string 9 w' w.heap.size (fun _ => True) v ts ∧ Below w.heap.size w w' := by
 show Calls Try.prog 57 #[.string s, .pointer (some ⟨B, 0, none⟩)] w _
 have hu1 := Try.underlying31
 have hu2 := Try.underlying62
 unfold impl_Bolts_search_1.f at h
 obtain ⟨ms, A1_, H⟩ := Option.bind_eq_some_iff.mp h
 have HR0 := aM hr0
 have HR1 := aM hr1
 have HC0 := aM hc0
 have HC1 := aM hc1
 have HA0 := aM A1_
 have H' := aM H
 have BL := aM (show B < w.heap.size from blk_lt hbk)
 have hz0 : w.cell? ⟨B, 0, none⟩ = some (.slice A0 l0.length c0) := (blk_cell hbk 0).trans rfl
 have hz1 : w.cell? ⟨B, 1, none⟩ = some (.slice A1 l1.length c1) := (blk_cell hbk 1).trans rfl
 have BK0 := aM hbk
 clear hr0 hr1 hc0 hc1 A1_ hbk h H
 go_enter Try.func57, Try.ntmps57
 go_wp2_with (first | (go_at_call 35; (with_reducible refine (impl_Bolts_slides.calls k A0 c0 l0 A1 c1 l1 s ms w HR0.out HC0.out HR1.out HC1.out HA0.out).mono ?_); rintro e w6 ⟨vm, rfl, hm, hb⟩; obtain ⟨Am, cm, em⟩ := Kd.R_slice hm; subst em; have HM := aM hm; have HB := aM hb; have BK := aM (blk_below (g := B) (o := .cells #[.slice A0 l0.length c0, .slice A1 l1.length c1] 31 (0, 0)) BK0.out hb); clear hm hb))
 go_loopg [4, 13] k (fun kq v4 v13 w' => ∃ (x : List ByteArray) (i : Int), v13 = .int .i64 i ∧ Aside0 (impl_Bolts_search_1.l0 l0 l1 s kq ms x i = some ts) ∧ Aside0 (kq ≤ k) ∧ Aside0 (Kd.R Kd.string 9 w' w.heap.size (fun _ => True) v4 x) ∧ Aside0 (Kd.R k62 62 w' w.heap.size (fun _ => True) (.slice Am ms.length cm) ms) ∧ Aside0 (w'.heap[B]? = some (.cells #[.slice A0 l0.length c0, .slice A1 l1.length c1] 31 (0, 0))) ∧ Aside0 (Below w.heap.size w w'))
 case atStart => exact ⟨[], 0, rfl, H', ⟨Nat.le_refl _⟩, ⟨Kd.R_nil _ _ _ _ _⟩, HM, BK, HB⟩
 case round =>
  clear H' HM BK HB hz0 hz1
  obtain ⟨x, i, rfl, HA, HK1, HX, HM, BK, HB⟩ := hrel
  cases gk with
  | zero => exact absurd HA.out (by simp [impl_Bolts_search_1.l0])
  | succ k1 =>
   have H := HA.out
   clear HA
   simp only [impl_Bolts_search_1.l0] at H
   by_cases c4 : i < (ms.length : Int)
   ·rw [if_pos c4] at H
    have c4b0 : decide (i < (ms.length : Int)) = true := decide_eq_true c4
    by_cases c5 : 0 ≤ i
    ·rw [if_pos c5] at H
     have c5b0 : decide (0 ≤ i) = true := decide_eq_true c5
     obtain ⟨⟨t, tb⟩, A2_, H⟩ := Option.bind_eq_some_iff.mp H
     have A2 := aM A2_
     clear A2_
     replace H : (if x.length < 8796093022208 then impl_Bolts_search_1.l0 l0 l1 s k1 ms (x ++ [t]) (wrap64 (i + 1)) else none) = some ts := H
     by_cases c6 : x.length < 8796093022208
     ·rw [if_pos c6] at H
      have LM := aM c6
      have H' := aM H
      clear H c6
      obtain ⟨ad, ea, hx0, hx1⟩ := at_T62 (Kd.R_reads' HM.out).2.2 i c5 c4
      cases ea
      have q4 := eq_true c4
      have q5 := eq_true c5
      clear c4 c5
      go_wp2_with (first
       | ((with_reducible refine gate_dst (N := 6) rfl ?_); refine box_event ?hg (N := 6) ?hd (cs := #[.int .i64 0, .int .i64 0]) (t := 62) ?hr ?_; (case hd => rfl); (case hg => rfl); (case hr => first | (go_simp; done) | (go_simp; rfl)); intro gb hg w14 hbox hb; have n0_ := aM (Kd.R_below HX.out hb); have n1_ := aM (Kd.R_below (Kd.R_elderB HM.out gb (Nat.le_of_eq hg.symm)) hb); have n2_ := aM (blk_below (g := B) (o := .cells #[.slice A0 l0.length c0, .slice A1 l1.length c1] 31 (0, 0)) BK.out hb); have n5_ := aM (show w.heap.size ≤ gb by rw [hg]; exact below_size HB.out); have n3_ := aM (below_step HB.out hb); have n4_ := aM hbox; have n7_ := aM (show B ≠ gb by rw [hg]; exact Nat.ne_of_lt (blk_lt (g := B) (o := .cells #[.slice A0 l0.length c0, .slice A1 l1.length c1] 31 (0, 0)) BK.out)); have n8_ := aM (show gb ≠ B from fun e => n7_.out e.symm); clear HX HM BK HB; have HX := n0_; have HM := n1_; have BK := n2_; have HB := n3_; have BKm := n4_; have GE := n5_; have NB := n7_; have NB2 := n8_; clear n0_ n1_ n2_ n3_ n4_ n5_ n7_ n8_; clear hb hbox hg; have hnb := NB2.out; have hnc := NB.out; have hca : w14.cell? ⟨gb, 0, none⟩ = some (.int .i64 0) := (blk_cell BKm.out 0).trans rfl; have hcb : w14.cell? ⟨gb, 1, none⟩ = some (.int .i64 0) := (blk_cell BKm.out 1).trans rfl; have hfa := blk_frozen BKm.out 0; have hfb := blk_frozen BKm.out 1; have hcc : w14.cell? ⟨B, 0, none⟩ = some (.slice A0 l0.length c0) := (blk_cell BK.out 0).trans rfl; have hcd : w14.cell? ⟨B, 1, none⟩ = some (.slice A1 l1.length c1) := (blk_cell BK.out 1).trans rfl)
       | ((with_reducible refine gate_callee (f := 36) rfl ?_); refine goesL_ (some 21) rfl rfl Try.func36 (by kernel_rfl) rfl #[.agg #[.slice A0 l0.length c0, .slice A1 l1.length c1], .string s, .agg #[.int .i64 (rd_T62 ms i).f0, .int .i64 (rd_T62 ms i).f1]] rfl (by (try simp only [List.map_toArray, List.map_cons, List.map_nil]); first | done | rfl) ?_; (with_reducible refine (impl_Bolts_slid.calls k1 _ _ l0 _ _ l1 s (rd_T62 ms i).f0 (rd_T62 ms i).f1 t tb _ ?side1 ?side2 ?side3 ?side4 A2.out).mono ?_); (case side1 => exact Kd.C_below HR0.out (by repeat (first | (with_reducible first | exact HB.out | refine bS ?_ GE.out) | exact HB.out))); (case side2 => exact HC0.out); (case side3 => exact Kd.C_below HR1.out (by repeat (first | (with_reducible first | exact HB.out | refine bS ?_ GE.out) | exact HB.out))); (case side4 => exact HC1.out); rintro e w18 ⟨rfl, hb⟩; refine ⟨_, rfl, ?_⟩; have n0_ := aM (Kd.R_below (Kd.R_mono (Kd.R_far (p := ⟨gb, 1, none⟩) (Kd.R_far (p := ⟨gb, 0, none⟩) (Kd.R_types HX.out BKm.out (by decide)) (fun _ hk => hk.2) (.int .i64 (rd_T62 ms i).f0)) (fun _ hk => hk.2) (.int .i64 (rd_T62 ms i).f1)) (fun _ h_ => h_.1)) hb); have n1_ := aM (Kd.R_below (Kd.R_mono (Kd.R_far (p := ⟨gb, 1, none⟩) (Kd.R_far (p := ⟨gb, 0, none⟩) (Kd.R_mono HM.out (fun k_ hk => (⟨hk, hk.2⟩ : _ ∧ k_ ≠ gb))) (fun _ hk => hk.2) (.int .i64 (rd_T62 ms i).f0)) (fun _ hk => hk.2) (.int .i64 (rd_T62 ms i).f1)) (fun _ h_ => h_.1)) hb); have n2_ := aM (blk_below (g := B) (o := .cells #[.slice A0 l0.length c0, .slice A1 l1.length c1] 31 (0, 0)) (blk_far (blk_far BK.out NB.out _) NB.out _) hb); have n4_ := aM (below_step (by repeat (first | (with_reducible first | exact HB.out | refine bS ?_ GE.out) | exact HB.out)) hb); clear HX HM BK HB; have HX := n0_; have HM := n1_; have BK := n2_; have HB := n4_; clear n0_ n1_ n2_ n4_; clear hb)
       | ((with_reducible refine gate_builtin (b := .append) (xs := #[.tmp 24, .tmp 26]) rfl ?_); at_builtin; refine Kd.R_append Kd.string (w0 := w) w.heap.size rfl (.tmp 24) (.tmp 26) 47 9 (.string ⟨#[]⟩) 16 rfl Try.underlying47 info9 rfl (by decide) (by omega) u4 x t [.string t] (fun _ => True) (fun _ => False) rfl rfl ?aP (fun _ hk => hk.elim) ?aF ?aO ?aB ?aS ?aL ?_; (case aP => exact rfl); (case aB => exact HB.out); (case aF => exact (fun _ _ => trivial)); (case aO => exact HX.out); (case aS => exact below_size HB.out); (case aL => have := LM.out; omega); intro v2 w20 ho hb hg hat; have n0_ := aM (Kd.R_mono (Kd.R_over' HM.out (Kd.R_typed HX.out) (by decide) hg) (fun _ _ => trivial)); have n1_ := aM (blk_grown (g := B) (o := .cells #[.slice A0 l0.length c0, .slice A1 l1.length c1] 31 (0, 0)) BK.out hg (Kd.R_ne HX.out BK.out (by decide))); have n3_ := aM hb; have n4_ := aM ho; clear HM BK HB HX; have HM := n0_; have BK := n1_; have HB := n3_; have HX := n4_; clear n0_ n1_ n3_ n4_; clear ho hb hg hat))
      go_roundg k1
      case measure => have := HK1.out; omega
      case rel => exact ⟨x ++ [t], wrap64 (i + 1), rfl, H', ⟨by have := HK1.out; omega⟩, ⟨Kd.R_mono HX.out (fun _ _ => trivial)⟩, HM, BK, HB⟩
     ·rw [if_neg c6] at H
      cases H
    ·rw [if_neg c5] at H
     cases H
   ·rw [if_neg c4] at H
    have c4b0 : decide (i < (ms.length : Int)) = false := decide_eq_false c4
    clear c4
    obtain rfl := Option.some.inj H
    go_wp2
    go_ret
    exact ⟨_, rfl, HX.out, HB.out⟩

/-! ### impl_Bolts_search: function 28 (told by hand) -/
theorem impl_searched.St.rebase {w w5 w' : World} {gb b1 b2 : Nat} {ok : Nat → Prop} {v : Value} {x : List ByteArray} {f g : ByteArray → Option Int} {c : Nat} (hB : Below w.heap.size w w5) (h : impl_searched.St w5 w' gb b1 b2 ok v x f g c) : impl_searched.St w w' gb b1 b2 ok v x f g c :=
 ⟨Kd.R_lower h.lst hB.size, h.blk, h.far, h.way, ⟨Nat.le_trans hB.size h.ge.1, Nat.le_trans hB.size h.ge.2.1, Nat.le_trans hB.size h.ge.2.2.1, h.ge.2.2.2⟩, below_step hB h.bel⟩
def impl_Bolts_search.f (k : Nat) (l0_0 : List Int) (l0_1 : List S77) (a1 : ByteArray) : Option (List ByteArray × (ByteArray → Option Int) × (ByteArray → Option Int)) := impl_searched.f (impl_Bolts_search_1.f l0_0 l0_1) k a1
theorem impl_Bolts_search.mono : ∀ a0 a1 a2 k, LeO (impl_Bolts_search.f k a0 a1 a2) (impl_Bolts_search.f (k + 1) a0 a1 a2) := fun a0 a1 a2 k => impl_searched.mono (impl_Bolts_search_1.mono a0 a1) a2 k
set_option maxHeartbeats 8000000 in
set_option maxRecDepth 100000 in
theorem impl_Bolts_search.calls (k : Nat) (A0_0 : Option Addr) (c0_0 : Nat) (l0_0 : List Int) (A0_1 : Option Addr) (c0_1 : Nat) (l0_1 : List S77) (a1 : ByteArray) (r : List ByteArray × (ByteArray → Option Int) × (ByteArray → Option Int)) (w : World) (hr0_0 : Kd.C (Kd.int .i64) w A0_0 l0_0.length l0_0) (hc0_0 : l0_0.length ≤ c0_0) (hr0_1 : Kd.C k77 w A0_1 l0_1.length l0_1) (hc0_1 : l0_1.length ≤ c0_1) (hs : a1.size ≤ maxLen) (h : impl_Bolts_search.f k l0_0 l0_1 a1 = some r) :
  Calls Try.prog 28 #[.agg #[.slice A0_0 l0_0.length c0_0, .slice A0_1 l0_1.length c0_1], .string a1] w fun e w' => ∃ gb, e = .returned (.pointer (some ⟨gb, 0, none⟩)) ∧ ∃ b1 b2 v c, impl_searched.St w w' gb b1 b2 (fun _ => True) v r.1 r.2.1 r.2.2 c := by
 have hmf : ∀ (fn : Fn) (first cap : Array Value) (w : World), (Instr.makeFunc fn first cap).run Try.prog w = .ok (.func fn first cap) w := fun _ _ _ _ => rfl
 have hu1 := Try.underlying31
 have HR0 := aM hr0_0
 have HR1 := aM hr0_1
 have HC0 := aM hc0_0
 have HC1 := aM hc0_1
 have HS := aM hs
 have HA := aM (show impl_searched.f (impl_Bolts_search_1.f l0_0 l0_1) k a1 = some r from h)
 clear hr0_0 hr0_1 hc0_0 hc0_1 hs h
 go_enter Try.func28, Try.ntmps28
 go_wp2_with (first | ((with_reducible refine gate_dst (N := 2) rfl ?_); refine box_event ?hg (N := 2) ?hd (cs := #[.slice A0_0 l0_0.length c0_0, .slice A0_1 l0_1.length c0_1]) (t := 31) ?hr ?_; (case hd => rfl); (case hg => rfl); (case hr => first | (go_simp; done) | (go_simp; rfl)); intro gb hg w5 hbox hb; have HB := aM hb; have BK := aM hbox; clear hb hbox hg) | (go_at_call 56; (with_reducible refine (impl_searched.calls 57 #[.pointer (some ⟨gb, 0, none⟩)] (Go.Proofs.enters_of Try.func57 (by kernel_rfl) rfl) (impl_Bolts_search_1.f l0_0 l0_1) k a1 r w5 HS.out (fun j x ts W' hb' hj => impl_Bolts_search_1.calls gb A0_0 c0_0 l0_0 A0_1 c0_1 l0_1 j x ts W' (blk_below (g := gb) (o := .cells #[.slice A0_0 l0_0.length c0_0, .slice A0_1 l0_1.length c0_1] 31 (0, 0)) BK.out hb') (Kd.C_below (Kd.C_below HR0.out HB.out) hb') HC0.out (Kd.C_below (Kd.C_below HR1.out HB.out) hb') HC1.out hj) HA.out).mono ?_); rintro e w7 ⟨gr, rfl, b1, b2, v, c, hS⟩; have SS := aM (hS.rebase HB.out); clear hS))
 go_ret
 exact ⟨gr, rfl, b1, b2, v, c, SS.out⟩

end Go.Proofs.Ytehhfcbhoaocdaa.PF
