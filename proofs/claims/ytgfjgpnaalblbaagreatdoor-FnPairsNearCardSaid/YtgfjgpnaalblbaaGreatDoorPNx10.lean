-- written by a program of this session's (wip/tools), over the kit's print
import Derived.Test.YtgfjgpnaalblbaaGreatDoorPNx0
import Derived.Test.YtgfjgpnaalblbaaGreatDoorPNx2
import Derived.Test.YtgfjgpnaalblbaaGreatDoorPNx3
import Derived.Test.YtgfjgpnaalblbaaGreatDoorPNx4
import Derived.Test.YtgfjgpnaalblbaaGreatDoorPNx6
import Derived.Test.YtgfjgpnaalblbaaGreatDoorPNx7
import Derived.Test.YtgfjgpnaalblbaaGreatDoorPNx9
-- squeezed
-- squeezed twice
namespace Go.Proofs.YtgfjgpnaalblbaaGreatDoor.PN
open Go.RowKit Go.Proofs.YtgfjgpnaalblbaaGreatDoorW.PrintWords Go.Proofs.YtgfjgpnaalblbaaGreatDoorW.PrintLast Go.Proofs.YtgfjgpnaalblbaaGreatDoorW.PrintMore
attribute [local go_sem] max2_int min2_int max_two min_two max_three min_three max_four min_four   -- for this text's walks alone
set_option linter.unusedVariables false
set_option linter.unusedSimpArgs false

/-! ### spec_MostSaved: function 19 -/
def spec_MostSaved.l0 : Nat → Int → List Int → Int → Int → Option (Int × Bool)
 | 0, _, _, _, _ => none
 | k + 1, x6, x18, x19, x20 => if x20 < x19 then (if 0 ≤ x20 then (if x20 < (x18.length : Int) then ((spec_l1Most.f x6 (wrap64 (x20 - (rd x18 x20)))).bind fun t409 => (spec_MostSaved.l0 k t409 x18 x19 (wrap64 (x20 + 1)))) else (none)) else (none)) else (some (x6, true))
def spec_MostSaved.f (k : Nat) (a0 : Int) : Option (Int × Bool) := (spec_twRings.f a0).bind fun t400 => (if t400 = true then ((spec_riAll.f k a0 (⟨#[48]⟩ : ByteArray)).bind fun t401 => ((spec_twFar.f k t401).bind fun bt402 => (spec_MostSaved.l0 k 0 bt402.1 (bt402.1.length : Int) 0))) else (some (0, false)))
theorem spec_MostSaved.mono_l : ∀ k, (∀ y0 y1 y2 y3, LeO (spec_MostSaved.l0 k y0 y1 y2 y3) (spec_MostSaved.l0 (k + 1) y0 y1 y2 y3))
 | 0 => fun _ _ _ _ r h => by simp [spec_MostSaved.l0] at h
 | k + 1 => by
  have ih0 := spec_MostSaved.mono_l k
  ·intro y0 y1 y2 y3
   unfold spec_MostSaved.l0
   repeat' first
   | (with_reducible exact ih0 _ _ _ _)
   | (with_reducible exact spec_riAll.mono _ _ _)
   | (with_reducible exact spec_twFar.mono _ _)
   | (with_reducible exact LeO.refl _)
   | (with_reducible exact LeO.none _)
   | (with_reducible refine LeO.ite ?_ ?_)
   | (with_reducible refine LeO.bind ?_ (fun _ => ?_))
   | exact ih0 _ _ _ _
   | exact spec_riAll.mono _ _ _
   | exact spec_twFar.mono _ _
   | exact LeO.none _
   | refine LeO.ite ?_ ?_
   | refine LeO.bind ?_ (fun _ => ?_)
theorem spec_MostSaved.mono : ∀ a0 k, LeO (spec_MostSaved.f k a0) (spec_MostSaved.f (k + 1) a0) := by
 intro a0 k
 have ih0 := spec_MostSaved.mono_l k
 unfold spec_MostSaved.f
 repeat' first
   | (with_reducible exact ih0 _ _ _ _)
   | (with_reducible exact spec_riAll.mono _ _ _)
   | (with_reducible exact spec_twFar.mono _ _)
   | (with_reducible exact LeO.refl _)
   | (with_reducible exact LeO.none _)
   | (with_reducible refine LeO.ite ?_ ?_)
   | (with_reducible refine LeO.bind ?_ (fun _ => ?_))
   | exact ih0 _ _ _ _
   | exact spec_riAll.mono _ _ _
   | exact spec_twFar.mono _ _
   | exact LeO.none _
   | refine LeO.ite ?_ ?_
   | refine LeO.bind ?_ (fun _ => ?_)
set_option maxHeartbeats 8000000 in
set_option maxRecDepth 100000 in
theorem spec_MostSaved.calls (k : Nat) (a0 : Int) (r1 : Int) (r2 : Bool) (w : World) (h : spec_MostSaved.f k a0 = some (r1, r2)) :
  Calls Tryz.prog 19 #[.int .i64 a0] w fun e w' => e = .returned (.tuple #[.int .i64 r1, .bool r2]) ∧ Below w.heap.size w w' := by
 have HB := aM (Below.refl w.heap.size w)
 have H : ((spec_twRings.f a0).bind fun t400 => (if t400 = true then ((spec_riAll.f k a0 (⟨#[48]⟩ : ByteArray)).bind fun t401 => ((spec_twFar.f k t401).bind fun bt402 => (spec_MostSaved.l0 k 0 bt402.1 (bt402.1.length : Int) 0))) else (some (0, false)))) = some (r1, r2) := h
 clear h
 replace H := Option.bind_eq_some_iff.mp H
 obtain ⟨t400, A20, H⟩ := H
 replace H : (if t400 = true then ((spec_riAll.f k a0 (⟨#[48]⟩ : ByteArray)).bind fun t401 => ((spec_twFar.f k t401).bind fun bt402 => (spec_MostSaved.l0 k 0 bt402.1 (bt402.1.length : Int) 0))) else (some (0, false))) = some (r1, r2) := H
 have A2 := aM A20
 clear A20
 by_cases c3 : t400 = true
 ·subst c3
  have H1 : ((spec_riAll.f k a0 (⟨#[48]⟩ : ByteArray)).bind fun t401 => ((spec_twFar.f k t401).bind fun bt402 => (spec_MostSaved.l0 k 0 bt402.1 (bt402.1.length : Int) 0))) = some (r1, r2) := by rw [if_pos rfl] at H; exact H
  clear H; have H := H1; clear H1
  replace H := Option.bind_eq_some_iff.mp H
  obtain ⟨t401, A40, H⟩ := H
  replace H : ((spec_twFar.f k t401).bind fun bt402 => (spec_MostSaved.l0 k 0 bt402.1 (bt402.1.length : Int) 0)) = some (r1, r2) := H
  have A4 := aM A40
  clear A40
  replace H := Option.bind_eq_some_iff.mp H
  obtain ⟨⟨t402, t403⟩, A50, H⟩ := H
  replace H : (spec_MostSaved.l0 k 0 t402 (t402.length : Int) 0) = some (r1, r2) := H
  have A5 := aM A50
  clear A50
  have H' := aM H
  clear H
  go_enter Tryz.func19, Tryz.ntmps19
  go_wp2_with (first | ((with_reducible refine gate_callee (f := 41) rfl ?_); refine goesL_ (some 10) rfl rfl Tryz.func41 (by kernel_rfl) rfl #[.int .i64 a0] rfl (by (try simp only [List.map_toArray, List.map_cons, List.map_nil]); first | done | rfl | (simp only [List.length_drop, List.length_take]; rfl)) ?_; (with_reducible refine (spec_twRings.calls a0 true _ A2.out).mono ?_); rintro e w' ⟨rfl, ⟨nd, rfl⟩⟩; refine ⟨_, rfl, ?_⟩) | ((with_reducible refine gate_callee (f := 42) rfl ?_); refine goesL_ (some 14) rfl rfl Tryz.func42 (by kernel_rfl) rfl #[.int .i64 a0, .string (⟨#[48]⟩ : ByteArray)] rfl (by (try simp only [List.map_toArray, List.map_cons, List.map_nil]); first | done | rfl | (simp only [List.length_drop, List.length_take]; rfl)) ?_; (with_reducible refine (spec_riAll.calls k a0 (⟨#[48]⟩ : ByteArray) t401 _ A4.out).mono ?_); rintro e w' ⟨rfl, ⟨nd, rfl⟩⟩; refine ⟨_, rfl, ?_⟩) | ((with_reducible refine gate_callee (f := 32) rfl ?_); refine goesL_ (some 15) rfl rfl Tryz.func32 (by kernel_rfl) rfl #[.string t401] rfl (by (try simp only [List.map_toArray, List.map_cons, List.map_nil]); first | done | rfl | (simp only [List.length_drop, List.length_take]; rfl)) ?_; (with_reducible refine (spec_twFar.calls k t401 t402 t403 _ A5.out).mono ?_); rintro e w6 ⟨v404, v406, rfl, ho0, ho1, hb⟩; refine ⟨_, rfl, ?_⟩; have n0_ := aM (Kd.R_lower ho0 (below_size (by repeat (first | (with_reducible first | exact HB.out | apply bA | apply bN | apply bD) | exact HB.out)))); have n1_ := aM (Kd.R_lower ho1 (below_size (by repeat (first | (with_reducible first | exact HB.out | apply bA | apply bN | apply bD) | exact HB.out)))); have n2_ := aM (below_step (by repeat (first | (with_reducible first | exact HB.out | apply bA | apply bN | apply bD) | exact HB.out)) hb); clear HB; have HO405 := n0_; have HO407 := n1_; have HB := n2_; clear n0_ n1_ n2_; (try clear hb); (try clear hb2); (try clear hk); (try clear hi); (try clear ho0); (try clear ho1); obtain ⟨Ao7, co7, eo7⟩ := Kd.R_slice HO405.out; subst eo7))
  go_loopg [6, 20] k (fun kq v6 v20 w' => ∃ (x6_1 : Int) (x20_1 : Int), v6 = .int .i64 x6_1 ∧ v20 = .int .i64 x20_1 ∧ Aside0 (spec_MostSaved.l0 kq x6_1 t402 (t402.length : Int) x20_1 = some (r1, r2)) ∧ Aside0 (kq ≤ k) ∧ Aside0 (Kd.R (Kd.int .i64) 3 w' w.heap.size (fun _ => True) (.slice Ao7 t402.length co7) t402) ∧ Aside0 (Below w.heap.size w w'))
  case atStart => exact ⟨(0), (0), (by first | rfl | (simp; done) | (simp [*]; done)), (by first | rfl | (simp; done) | (simp [*]; done)), H', ⟨Nat.le_refl _⟩, ⟨by (with_reducible repeat (first | apply rA | apply rN | apply rD)); exact Kd.R_mono HO405.out (fun _ hk => trivial)⟩, ⟨by repeat (first | (with_reducible first | exact HB.out | apply bA | apply bN | apply bD) | exact HB.out)⟩⟩
  case round =>
   clear H'
   try clear c1
   try clear p2
   try clear c3
   try clear c4
   obtain ⟨x6_1, x20_1, rfl, rfl, HA, HK1, HO_18, HB⟩ := hrel
   cases gk with
   | zero => exact absurd HA.out (by simp [spec_MostSaved.l0])
   | succ k1 =>
    have H := HA.out
    clear HA
    simp only [spec_MostSaved.l0] at H
    by_cases c8 : x20_1 < (t402.length : Int)
    ·rw [if_pos c8] at H
     have c8b0 : decide (x20_1 < (t402.length : Int)) = true := decide_eq_true c8
     clear c8
     by_cases c9 : 0 ≤ x20_1
     ·rw [if_pos c9] at H
      have c9b0 : decide (0 ≤ x20_1) = true := decide_eq_true c9
      clear c9
      by_cases c10 : x20_1 < (t402.length : Int)
      ·rw [if_pos c10] at H
       have c10b0 : decide (x20_1 < (t402.length : Int)) = true := decide_eq_true c10
       clear c10
       replace H := Option.bind_eq_some_iff.mp H
       obtain ⟨t409, A110, H⟩ := H
       replace H : (spec_MostSaved.l0 k1 t409 t402 (t402.length : Int) (wrap64 (x20_1 + 1))) = some (r1, r2) := H
       have A11 := aM A110
       clear A110
       have H' := aM H
       clear H
       have p408 : 0 ≤ (x20_1 : Int) := of_decide_eq_true (by first | (with_reducible assumption) | assumption)
       have q408 : x20_1 < (t402.length : Int) := of_decide_eq_true (by first | (with_reducible assumption) | assumption)
       obtain ⟨ad408, e408, hx408_0⟩ := Kd.at_int (Kd.R_reads' HO_18.out).2.2 x20_1 p408 q408
       cases e408
       replace p408 := eq_true p408
       replace q408 := eq_true q408
       go_wp2_with (first | ((with_reducible refine gate_callee (f := 36) rfl ?_); refine goesL_ (some 29) rfl rfl Tryz.func36 (by kernel_rfl) rfl #[.int .i64 x6_1, .int .i64 (wrap64 (x20_1 - (rd t402 x20_1)))] rfl (by (try simp only [List.map_toArray, List.map_cons, List.map_nil]); first | done | rfl | (simp only [List.length_drop, List.length_take]; rfl)) ?_; (with_reducible refine (spec_l1Most.calls x6_1 (wrap64 (x20_1 - (rd t402 x20_1))) t409 _ A11.out).mono ?_); rintro e w' ⟨rfl, ⟨nd, rfl⟩⟩; refine ⟨_, rfl, ?_⟩))
       go_roundg k1
       case measure => have := HK1.out; omega
       case rel => exact ⟨(t409), (wrap64 (x20_1 + 1)), (by first | rfl | (simp; done) | (simp [*]; done)), (by first | rfl | (simp; done) | (simp [*]; done)), H', ⟨by have := HK1.out; omega⟩, ⟨by (with_reducible repeat (first | apply rA | apply rN | apply rD)); exact HO_18.out⟩, ⟨by repeat (first | (with_reducible first | exact HB.out | apply bA | apply bN | apply bD) | exact HB.out)⟩⟩
      ·rw [if_neg c10] at H
       exact absurd H (by simp)
     ·rw [if_neg c9] at H
      exact absurd H (by simp)
    ·rw [if_neg c8] at H
     have c8b0 : decide (x20_1 < (t402.length : Int)) = false := decide_eq_false c8
     clear c8
     simp only [Option.some.injEq, Prod.mk.injEq] at H
     obtain ⟨rfl, rfl⟩ := H
     go_wp2
     go_ret2
     exact ⟨by first | rfl | (simp [errW_none, errW_some] <;> rfl) | (simp [*, errW_none, errW_some] <;> rfl), by repeat (first | (with_reducible first | exact HB.out | apply bA | apply bN | apply bD) | exact HB.out)⟩
 ·replace c3 := Bool.eq_false_iff.mpr c3
  subst c3
  have H1 : (some (0, false)) = some (r1, r2) := by rw [if_neg (show ¬ (false = true) by decide)] at H; exact H
  clear H; have H := H1; clear H1
  simp only [Option.some.injEq, Prod.mk.injEq] at H
  obtain ⟨rfl, rfl⟩ := H
  go_enter Tryz.func19, Tryz.ntmps19
  go_wp2_with (first | ((with_reducible refine gate_callee (f := 41) rfl ?_); refine goesL_ (some 10) rfl rfl Tryz.func41 (by kernel_rfl) rfl #[.int .i64 a0] rfl (by (try simp only [List.map_toArray, List.map_cons, List.map_nil]); first | done | rfl | (simp only [List.length_drop, List.length_take]; rfl)) ?_; (with_reducible refine (spec_twRings.calls a0 false _ A2.out).mono ?_); rintro e w' ⟨rfl, ⟨nd, rfl⟩⟩; refine ⟨_, rfl, ?_⟩))
  go_ret2
  exact ⟨by first | rfl | (simp [errW_none, errW_some] <;> rfl) | (simp [*, errW_none, errW_some] <;> rfl), by repeat (first | (with_reducible first | exact HB.out | apply bA | apply bN | apply bD) | exact HB.out)⟩

/-! ### strings_Repeat: function 58 (told by hand) -/
/-- strings.Repeat, short strings: the shelf's contract. -/
def strings_Repeat.f (a0 : ByteArray) (a1 : Int) : Option ByteArray :=
 if 0 ≤ a1 ∧ a1 ≤ 1000000000 ∧ a0.size ≤ 100000 then some ⟨(Lib.repeatL a0.data.toList a1.toNat).toArray⟩ else none
set_option maxHeartbeats 8000000 in
set_option maxRecDepth 100000 in
theorem strings_Repeat.calls (a0 : ByteArray) (a1 : Int) (r : ByteArray) (w : World) (h : strings_Repeat.f a0 a1 = some r) :
  Calls Tryz.prog 58 #[.string a0, .int .i64 a1] w fun e w' => e = .returned (.string r) ∧ Below w.heap.size w w' := by
 unfold strings_Repeat.f at h
 by_cases c0 : ¬ (0 ≤ a1 ∧ a1 ≤ 1000000000 ∧ a0.size ≤ 100000)
 ·rw [if_neg c0] at h; exact absurd h (by simp)
 replace c0 := Decidable.not_not.mp c0
 rw [if_pos c0] at h
 obtain rfl := Option.some.inj h
 obtain ⟨c1, c2, c3⟩ := c0
 obtain ⟨i, rfl⟩ : ∃ i : Nat, a1 = (i : Int) := ⟨a1.toNat, by omega⟩
 have h1 : a0.size * i ≤ 100000 * 1000000000 := Nat.mul_le_mul c3 (by omega)
 exact Tryz.strings_Repeat a0 i w (by omega) (by omega)

/-! ### impl_AllOn: function 45 -/
def impl_AllOn.f (a0 : Int) : Option (ByteArray × Bool) := (impl_in.f a0 1 20).bind fun t410 => (if t410 = true then ((strings_Repeat.f (⟨#[49]⟩ : ByteArray) a0).bind fun t411 => (some (t411, true))) else (some ((⟨#[]⟩ : ByteArray), false)))
set_option maxHeartbeats 8000000 in
set_option maxRecDepth 100000 in
theorem impl_AllOn.calls (a0 : Int) (r1 : ByteArray) (r2 : Bool) (w : World) (h : impl_AllOn.f a0 = some (r1, r2)) :
  Calls Tryz.prog 45 #[.int .i64 a0] w fun e w' => e = .returned (.tuple #[.string r1, .bool r2]) ∧ Below w.heap.size w w' := by
 have HB := aM (Below.refl w.heap.size w)
 have H : ((impl_in.f a0 1 20).bind fun t410 => (if t410 = true then ((strings_Repeat.f (⟨#[49]⟩ : ByteArray) a0).bind fun t411 => (some (t411, true))) else (some ((⟨#[]⟩ : ByteArray), false)))) = some (r1, r2) := h
 clear h
 replace H := Option.bind_eq_some_iff.mp H
 obtain ⟨t410, A20, H⟩ := H
 replace H : (if t410 = true then ((strings_Repeat.f (⟨#[49]⟩ : ByteArray) a0).bind fun t411 => (some (t411, true))) else (some ((⟨#[]⟩ : ByteArray), false))) = some (r1, r2) := H
 have A2 := aM A20
 clear A20
 by_cases c3 : t410 = true
 ·subst c3
  have H1 : ((strings_Repeat.f (⟨#[49]⟩ : ByteArray) a0).bind fun t411 => (some (t411, true))) = some (r1, r2) := by rw [if_pos rfl] at H; exact H
  clear H; have H := H1; clear H1
  replace H := Option.bind_eq_some_iff.mp H
  obtain ⟨t411, A40, H⟩ := H
  replace H : (some (t411, true)) = some (r1, r2) := H
  have A4 := aM A40
  clear A40
  simp only [Option.some.injEq, Prod.mk.injEq] at H
  obtain ⟨rfl, rfl⟩ := H
  go_enter Tryz.func45, Tryz.ntmps45
  go_wp2_with (first | ((with_reducible refine gate_callee (f := 26) rfl ?_); refine goesL_ (some 5) rfl rfl Tryz.func26 (by kernel_rfl) rfl #[.int .i64 a0, .int .i64 1, .int .i64 20] rfl (by (try simp only [List.map_toArray, List.map_cons, List.map_nil]); first | done | rfl | (simp only [List.length_drop, List.length_take]; rfl)) ?_; (with_reducible refine (impl_in.calls a0 1 20 true _ A2.out).mono ?_); rintro e w' ⟨rfl, ⟨nd, rfl⟩⟩; refine ⟨_, rfl, ?_⟩) | ((with_reducible refine gate_callee (f := 58) rfl ?_); refine goesL_ (some 8) rfl rfl Tryz.func58 (by kernel_rfl) rfl #[.string (⟨#[49]⟩ : ByteArray), .int .i64 a0] rfl (by (try simp only [List.map_toArray, List.map_cons, List.map_nil]); first | done | rfl | (simp only [List.length_drop, List.length_take]; rfl)) ?_; (with_reducible refine (strings_Repeat.calls (⟨#[49]⟩ : ByteArray) a0 t411 _ A4.out).mono ?_); rintro e w5 ⟨rfl, hb⟩; refine ⟨_, rfl, ?_⟩; have n0_ := aM (below_step (by repeat (first | (with_reducible first | exact HB.out | apply bA | apply bN | apply bD) | exact HB.out)) hb); clear HB; have HB := n0_; clear n0_; (try clear hb); (try clear hb2); (try clear hk); (try clear hi)))
  go_ret2
  exact ⟨by first | rfl | (simp [errW_none, errW_some] <;> rfl) | (simp [*, errW_none, errW_some] <;> rfl), by repeat (first | (with_reducible first | exact HB.out | apply bA | apply bN | apply bD) | exact HB.out)⟩
 ·replace c3 := Bool.eq_false_iff.mpr c3
  subst c3
  have H1 : (some ((⟨#[]⟩ : ByteArray), false)) = some (r1, r2) := by rw [if_neg (show ¬ (false = true) by decide)] at H; exact H
  clear H; have H := H1; clear H1
  simp only [Option.some.injEq, Prod.mk.injEq] at H
  obtain ⟨rfl, rfl⟩ := H
  go_enter Tryz.func45, Tryz.ntmps45
  go_wp2_with (first | ((with_reducible refine gate_callee (f := 26) rfl ?_); refine goesL_ (some 5) rfl rfl Tryz.func26 (by kernel_rfl) rfl #[.int .i64 a0, .int .i64 1, .int .i64 20] rfl (by (try simp only [List.map_toArray, List.map_cons, List.map_nil]); first | done | rfl | (simp only [List.length_drop, List.length_take]; rfl)) ?_; (with_reducible refine (impl_in.calls a0 1 20 false _ A2.out).mono ?_); rintro e w' ⟨rfl, ⟨nd, rfl⟩⟩; refine ⟨_, rfl, ?_⟩))
  go_ret2
  exact ⟨by first | rfl | (simp [errW_none, errW_some] <;> rfl) | (simp [*, errW_none, errW_some] <;> rfl), by repeat (first | (with_reducible first | exact HB.out | apply bA | apply bN | apply bD) | exact HB.out)⟩

/-! ### impl_MovesToClear: function 22 -/
def impl_MovesToClear.f (k : Nat) (a0 : Int) : Option (Int × Bool) := (impl_AllOn.f a0).bind fun bt412 => (if bt412.2 = true then ((impl_number.f k bt412.1).bind fun t414 => (some (t414, true))) else (some (0, false)))
theorem impl_MovesToClear.mono : ∀ a0 k, LeO (impl_MovesToClear.f k a0) (impl_MovesToClear.f (k + 1) a0) := by
 intro a0 k
 unfold impl_MovesToClear.f
 repeat' first
   | (with_reducible exact impl_number.mono _ _)
   | (with_reducible exact LeO.refl _)
   | (with_reducible exact LeO.none _)
   | (with_reducible refine LeO.ite ?_ ?_)
   | (with_reducible refine LeO.bind ?_ (fun _ => ?_))
   | exact impl_number.mono _ _
   | exact LeO.none _
   | refine LeO.ite ?_ ?_
   | refine LeO.bind ?_ (fun _ => ?_)
set_option maxHeartbeats 8000000 in
set_option maxRecDepth 100000 in
theorem impl_MovesToClear.calls (k : Nat) (a0 : Int) (r1 : Int) (r2 : Bool) (w : World) (h : impl_MovesToClear.f k a0 = some (r1, r2)) :
  Calls Tryz.prog 22 #[.int .i64 a0] w fun e w' => e = .returned (.tuple #[.int .i64 r1, .bool r2]) ∧ Below w.heap.size w w' := by
 have HB := aM (Below.refl w.heap.size w)
 have H : ((impl_AllOn.f a0).bind fun bt412 => (if bt412.2 = true then ((impl_number.f k bt412.1).bind fun t414 => (some (t414, true))) else (some (0, false)))) = some (r1, r2) := h
 clear h
 replace H := Option.bind_eq_some_iff.mp H
 obtain ⟨⟨t412, t413⟩, A20, H⟩ := H
 replace H : (if t413 = true then ((impl_number.f k t412).bind fun t414 => (some (t414, true))) else (some (0, false))) = some (r1, r2) := H
 have A2 := aM A20
 clear A20
 by_cases c3 : t413 = true
 ·subst c3
  have H1 : ((impl_number.f k t412).bind fun t414 => (some (t414, true))) = some (r1, r2) := by rw [if_pos rfl] at H; exact H
  clear H; have H := H1; clear H1
  replace H := Option.bind_eq_some_iff.mp H
  obtain ⟨t414, A40, H⟩ := H
  replace H : (some (t414, true)) = some (r1, r2) := H
  have A4 := aM A40
  clear A40
  simp only [Option.some.injEq, Prod.mk.injEq] at H
  obtain ⟨rfl, rfl⟩ := H
  go_enter Tryz.func22, Tryz.ntmps22
  go_wp2_with (first | ((with_reducible refine gate_callee (f := 45) rfl ?_); refine goesL_ (some 8) rfl rfl Tryz.func45 (by kernel_rfl) rfl #[.int .i64 a0] rfl (by (try simp only [List.map_toArray, List.map_cons, List.map_nil]); first | done | rfl | (simp only [List.length_drop, List.length_take]; rfl)) ?_; (with_reducible refine (impl_AllOn.calls a0 t412 true _ A2.out).mono ?_); rintro e w5 ⟨rfl, hb⟩; refine ⟨_, rfl, ?_⟩; have n0_ := aM (below_step (by repeat (first | (with_reducible first | exact HB.out | apply bA | apply bN | apply bD) | exact HB.out)) hb); clear HB; have HB := n0_; clear n0_; (try clear hb); (try clear hb2); (try clear hk); (try clear hi)) | ((with_reducible refine gate_callee (f := 38) rfl ?_); refine goesL_ (some 14) rfl rfl Tryz.func38 (by kernel_rfl) rfl #[.string t412] rfl (by (try simp only [List.map_toArray, List.map_cons, List.map_nil]); first | done | rfl | (simp only [List.length_drop, List.length_take]; rfl)) ?_; (with_reducible refine (impl_number.calls k t412 t414 _ A4.out).mono ?_); rintro e w' ⟨rfl, ⟨nd, rfl⟩⟩; refine ⟨_, rfl, ?_⟩))
  go_ret2
  exact ⟨by first | rfl | (simp [errW_none, errW_some] <;> rfl) | (simp [*, errW_none, errW_some] <;> rfl), by repeat (first | (with_reducible first | exact HB.out | apply bA | apply bN | apply bD) | exact HB.out)⟩
 ·replace c3 := Bool.eq_false_iff.mpr c3
  subst c3
  have H1 : (some (0, false)) = some (r1, r2) := by rw [if_neg (show ¬ (false = true) by decide)] at H; exact H
  clear H; have H := H1; clear H1
  simp only [Option.some.injEq, Prod.mk.injEq] at H
  obtain ⟨rfl, rfl⟩ := H
  go_enter Tryz.func22, Tryz.ntmps22
  go_wp2_with (first | ((with_reducible refine gate_callee (f := 45) rfl ?_); refine goesL_ (some 8) rfl rfl Tryz.func45 (by kernel_rfl) rfl #[.int .i64 a0] rfl (by (try simp only [List.map_toArray, List.map_cons, List.map_nil]); first | done | rfl | (simp only [List.length_drop, List.length_take]; rfl)) ?_; (with_reducible refine (impl_AllOn.calls a0 t412 false _ A2.out).mono ?_); rintro e w6 ⟨rfl, hb⟩; refine ⟨_, rfl, ?_⟩; have n0_ := aM (below_step (by repeat (first | (with_reducible first | exact HB.out | apply bA | apply bN | apply bD) | exact HB.out)) hb); clear HB; have HB := n0_; clear n0_; (try clear hb); (try clear hb2); (try clear hk); (try clear hi)))
  go_ret2
  exact ⟨by first | rfl | (simp [errW_none, errW_some] <;> rfl) | (simp [*, errW_none, errW_some] <;> rfl), by repeat (first | (with_reducible first | exact HB.out | apply bA | apply bN | apply bD) | exact HB.out)⟩

/-! ### impl_PairMovesToClear: function 20 -/
def impl_PairMovesToClear.f (k : Nat) (a0 : Int) : Option (Int × Bool) := (impl_in.f a0 2 12).bind fun t415 => (if t415 = true then ((impl_state.f k a0 0).bind fun t416 => ((impl_search.f k t416).bind fun bt417 => ((impl_MovesToClear.f k a0).bind fun bt426 => (if 0 ≤ bt426.1 then (if bt426.1 < (bt417.1.length : Int) then (some (rd bt417.1 bt426.1, true)) else (none)) else (none))))) else (some (0, false)))
theorem impl_PairMovesToClear.mono : ∀ a0 k, LeO (impl_PairMovesToClear.f k a0) (impl_PairMovesToClear.f (k + 1) a0) := by
 intro a0 k
 unfold impl_PairMovesToClear.f
 repeat' first
   | (with_reducible exact impl_MovesToClear.mono _ _)
   | (with_reducible exact impl_search.mono _ _)
   | (with_reducible exact impl_state.mono _ _ _)
   | (with_reducible exact LeO.refl _)
   | (with_reducible exact LeO.none _)
   | (with_reducible refine LeO.ite ?_ ?_)
   | (with_reducible refine LeO.bind ?_ (fun _ => ?_))
   | exact impl_MovesToClear.mono _ _
   | exact impl_search.mono _ _
   | exact impl_state.mono _ _ _
   | exact LeO.none _
   | refine LeO.ite ?_ ?_
   | refine LeO.bind ?_ (fun _ => ?_)
set_option maxHeartbeats 8000000 in
set_option maxRecDepth 100000 in
theorem impl_PairMovesToClear.calls (k : Nat) (a0 : Int) (r1 : Int) (r2 : Bool) (w : World) (h : impl_PairMovesToClear.f k a0 = some (r1, r2)) :
  Calls Tryz.prog 20 #[.int .i64 a0] w fun e w' => e = .returned (.tuple #[.int .i64 r1, .bool r2]) ∧ Below w.heap.size w w' := by
 have HB := aM (Below.refl w.heap.size w)
 have H : ((impl_in.f a0 2 12).bind fun t415 => (if t415 = true then ((impl_state.f k a0 0).bind fun t416 => ((impl_search.f k t416).bind fun bt417 => ((impl_MovesToClear.f k a0).bind fun bt426 => (if 0 ≤ bt426.1 then (if bt426.1 < (bt417.1.length : Int) then (some (rd bt417.1 bt426.1, true)) else (none)) else (none))))) else (some (0, false)))) = some (r1, r2) := h
 clear h
 replace H := Option.bind_eq_some_iff.mp H
 obtain ⟨t415, A20, H⟩ := H
 replace H : (if t415 = true then ((impl_state.f k a0 0).bind fun t416 => ((impl_search.f k t416).bind fun bt417 => ((impl_MovesToClear.f k a0).bind fun bt426 => (if 0 ≤ bt426.1 then (if bt426.1 < (bt417.1.length : Int) then (some (rd bt417.1 bt426.1, true)) else (none)) else (none))))) else (some (0, false))) = some (r1, r2) := H
 have A2 := aM A20
 clear A20
 by_cases c3 : t415 = true
 ·subst c3
  have H1 : ((impl_state.f k a0 0).bind fun t416 => ((impl_search.f k t416).bind fun bt417 => ((impl_MovesToClear.f k a0).bind fun bt426 => (if 0 ≤ bt426.1 then (if bt426.1 < (bt417.1.length : Int) then (some (rd bt417.1 bt426.1, true)) else (none)) else (none))))) = some (r1, r2) := by rw [if_pos rfl] at H; exact H
  clear H; have H := H1; clear H1
  replace H := Option.bind_eq_some_iff.mp H
  obtain ⟨t416, A40, H⟩ := H
  replace H : ((impl_search.f k t416).bind fun bt417 => ((impl_MovesToClear.f k a0).bind fun bt426 => (if 0 ≤ bt426.1 then (if bt426.1 < (bt417.1.length : Int) then (some (rd bt417.1 bt426.1, true)) else (none)) else (none)))) = some (r1, r2) := H
  have A4 := aM A40
  clear A40
  replace H := Option.bind_eq_some_iff.mp H
  obtain ⟨⟨t417, t418, t419⟩, A50, H⟩ := H
  replace H : ((impl_MovesToClear.f k a0).bind fun bt426 => (if 0 ≤ bt426.1 then (if bt426.1 < (t417.length : Int) then (some (rd t417 bt426.1, true)) else (none)) else (none))) = some (r1, r2) := H
  have A5 := aM A50
  clear A50
  replace H := Option.bind_eq_some_iff.mp H
  obtain ⟨⟨t426, t427⟩, A60, H⟩ := H
  replace H : (if 0 ≤ t426 then (if t426 < (t417.length : Int) then (some (rd t417 t426, true)) else (none)) else (none)) = some (r1, r2) := H
  have A6 := aM A60
  clear A60
  by_cases c7 : 0 ≤ t426
  ·rw [if_pos c7] at H
   have c7b0 : decide (0 ≤ t426) = true := decide_eq_true c7
   clear c7
   by_cases c8 : t426 < (t417.length : Int)
   ·rw [if_pos c8] at H
    have c8b0 : decide (t426 < (t417.length : Int)) = true := decide_eq_true c8
    clear c8
    simp only [Option.some.injEq, Prod.mk.injEq] at H
    obtain ⟨rfl, rfl⟩ := H
    go_enter Tryz.func20, Tryz.ntmps20
    go_wp2_with (first | ((with_reducible refine gate_callee (f := 26) rfl ?_); refine goesL_ (some 10) rfl rfl Tryz.func26 (by kernel_rfl) rfl #[.int .i64 a0, .int .i64 2, .int .i64 12] rfl (by (try simp only [List.map_toArray, List.map_cons, List.map_nil]); first | done | rfl | (simp only [List.length_drop, List.length_take]; rfl)) ?_; (with_reducible refine (impl_in.calls a0 2 12 true _ A2.out).mono ?_); rintro e w' ⟨rfl, ⟨nd, rfl⟩⟩; refine ⟨_, rfl, ?_⟩) | ((with_reducible refine gate_callee (f := 40) rfl ?_); refine goesL_ (some 14) rfl rfl Tryz.func40 (by kernel_rfl) rfl #[.int .i64 a0, .int .i64 0] rfl (by (try simp only [List.map_toArray, List.map_cons, List.map_nil]); first | done | rfl | (simp only [List.length_drop, List.length_take]; rfl)) ?_; (with_reducible refine (impl_state.calls k a0 0 t416 _ A4.out).mono ?_); rintro e w9 ⟨rfl, hb⟩; refine ⟨_, rfl, ?_⟩; have n0_ := aM (below_step (by repeat (first | (with_reducible first | exact HB.out | apply bA | apply bN | apply bD) | exact HB.out)) hb); clear HB; have HB := n0_; clear n0_; (try clear hb); (try clear hb2); (try clear hk); (try clear hi)) | ((with_reducible refine gate_callee (f := 27) rfl ?_); refine goesL_ (some 15) rfl rfl Tryz.func27 (by kernel_rfl) rfl #[.string t416] rfl (by (try simp only [List.map_toArray, List.map_cons, List.map_nil]); first | done | rfl | (simp only [List.length_drop, List.length_take]; rfl)) ?_; (with_reducible refine (impl_search.calls k t416 t417 t418 t419 _ A5.out).mono ?_); rintro e w10 ⟨v420, v422, v424, rfl, ho0, ho1, ho2, hb⟩; refine ⟨_, rfl, ?_⟩; have n0_ := aM (Kd.R_lower ho0 (below_size (by repeat (first | (with_reducible first | exact HB.out | apply bA | apply bN | apply bD) | exact HB.out)))); have n1_ := aM (Kd.R_lower ho1 (below_size (by repeat (first | (with_reducible first | exact HB.out | apply bA | apply bN | apply bD) | exact HB.out)))); have n2_ := aM (Kd.R_lower ho2 (below_size (by repeat (first | (with_reducible first | exact HB.out | apply bA | apply bN | apply bD) | exact HB.out)))); have n3_ := aM (below_step (by repeat (first | (with_reducible first | exact HB.out | apply bA | apply bN | apply bD) | exact HB.out)) hb); clear HB; have HO421 := n0_; have HO423 := n1_; have HO425 := n2_; have HB := n3_; clear n0_ n1_ n2_ n3_; (try clear hb); (try clear hb2); (try clear hk); (try clear hi); (try clear ho0); (try clear ho1); (try clear ho2)) | ((with_reducible refine gate_callee (f := 22) rfl ?_); refine goesL_ (some 21) rfl rfl Tryz.func22 (by kernel_rfl) rfl #[.int .i64 a0] rfl (by (try simp only [List.map_toArray, List.map_cons, List.map_nil]); first | done | rfl | (simp only [List.length_drop, List.length_take]; rfl)) ?_; (with_reducible refine (impl_MovesToClear.calls k a0 t426 t427 _ A6.out).mono ?_); rintro e w11 ⟨rfl, hb⟩; refine ⟨_, rfl, ?_⟩; have n0_ := aM (Kd.R_below (by (with_reducible repeat (first | apply rA | apply rN | apply rD)); exact HO421.out) hb); have n1_ := aM (Kd.R_below (by (with_reducible repeat (first | apply rA | apply rN | apply rD)); exact HO423.out) hb); have n2_ := aM (Kd.R_below (by (with_reducible repeat (first | apply rA | apply rN | apply rD)); exact HO425.out) hb); have n3_ := aM (below_step (by repeat (first | (with_reducible first | exact HB.out | apply bA | apply bN | apply bD) | exact HB.out)) hb); clear HO421; clear HO423; clear HO425; clear HB; have HO421 := n0_; have HO423 := n1_; have HO425 := n2_; have HB := n3_; clear n0_ n1_ n2_ n3_; (try clear hb); (try clear hb2); (try clear hk); (try clear hi); obtain ⟨Ao12, co12, eo12⟩ := Kd.R_slice HO421.out; subst eo12; have p428 : 0 ≤ (t426 : Int) := of_decide_eq_true (by first | (with_reducible assumption) | assumption); have q428 : t426 < (t417.length : Int) := of_decide_eq_true (by first | (with_reducible assumption) | assumption); obtain ⟨ad428, e428, hx428_0⟩ := Kd.at_int (Kd.R_reads' HO421.out).2.2 t426 p428 q428; cases e428; replace p428 := eq_true p428; replace q428 := eq_true q428))
    go_ret2
    exact ⟨by first | rfl | (simp [errW_none, errW_some] <;> rfl) | (simp [*, errW_none, errW_some] <;> rfl), by repeat (first | (with_reducible first | exact HB.out | apply bA | apply bN | apply bD) | exact HB.out)⟩
   ·rw [if_neg c8] at H
    exact absurd H (by simp)
  ·rw [if_neg c7] at H
   exact absurd H (by simp)
 ·replace c3 := Bool.eq_false_iff.mpr c3
  subst c3
  have H1 : (some (0, false)) = some (r1, r2) := by rw [if_neg (show ¬ (false = true) by decide)] at H; exact H
  clear H; have H := H1; clear H1
  simp only [Option.some.injEq, Prod.mk.injEq] at H
  obtain ⟨rfl, rfl⟩ := H
  go_enter Tryz.func20, Tryz.ntmps20
  go_wp2_with (first | ((with_reducible refine gate_callee (f := 26) rfl ?_); refine goesL_ (some 10) rfl rfl Tryz.func26 (by kernel_rfl) rfl #[.int .i64 a0, .int .i64 2, .int .i64 12] rfl (by (try simp only [List.map_toArray, List.map_cons, List.map_nil]); first | done | rfl | (simp only [List.length_drop, List.length_take]; rfl)) ?_; (with_reducible refine (impl_in.calls a0 2 12 false _ A2.out).mono ?_); rintro e w' ⟨rfl, ⟨nd, rfl⟩⟩; refine ⟨_, rfl, ?_⟩))
  go_ret2
  exact ⟨by first | rfl | (simp [errW_none, errW_some] <;> rfl) | (simp [*, errW_none, errW_some] <;> rfl), by repeat (first | (with_reducible first | exact HB.out | apply bA | apply bN | apply bD) | exact HB.out)⟩

/-! ### spec_PairMovesToClear: function 21 -/
def spec_PairMovesToClear.f (k : Nat) (a0 : Int) : Option (Int × Bool) := (spec_twRings.f a0).bind fun t429 => (if t429 = true then ((spec_riAll.f k a0 (⟨#[48]⟩ : ByteArray)).bind fun t430 => ((spec_twFar.f k t430).bind fun bt431 => ((spec_riAll.f k a0 (⟨#[49]⟩ : ByteArray)).bind fun t437 => ((spec_riNumber.f k t437).bind fun t438 => (if 0 ≤ t438 then (if t438 < (bt431.1.length : Int) then (some (rd bt431.1 t438, true)) else (none)) else (none)))))) else (some (0, false)))
theorem spec_PairMovesToClear.mono : ∀ a0 k, LeO (spec_PairMovesToClear.f k a0) (spec_PairMovesToClear.f (k + 1) a0) := by
 intro a0 k
 unfold spec_PairMovesToClear.f
 repeat' first
   | (with_reducible exact spec_riAll.mono _ _ _)
   | (with_reducible exact spec_riNumber.mono _ _)
   | (with_reducible exact spec_twFar.mono _ _)
   | (with_reducible exact LeO.refl _)
   | (with_reducible exact LeO.none _)
   | (with_reducible refine LeO.ite ?_ ?_)
   | (with_reducible refine LeO.bind ?_ (fun _ => ?_))
   | exact spec_riAll.mono _ _ _
   | exact spec_riNumber.mono _ _
   | exact spec_twFar.mono _ _
   | exact LeO.none _
   | refine LeO.ite ?_ ?_
   | refine LeO.bind ?_ (fun _ => ?_)
set_option maxHeartbeats 8000000 in
set_option maxRecDepth 100000 in
theorem spec_PairMovesToClear.calls (k : Nat) (a0 : Int) (r1 : Int) (r2 : Bool) (w : World) (h : spec_PairMovesToClear.f k a0 = some (r1, r2)) :
  Calls Tryz.prog 21 #[.int .i64 a0] w fun e w' => e = .returned (.tuple #[.int .i64 r1, .bool r2]) ∧ Below w.heap.size w w' := by
 have HB := aM (Below.refl w.heap.size w)
 have H : ((spec_twRings.f a0).bind fun t429 => (if t429 = true then ((spec_riAll.f k a0 (⟨#[48]⟩ : ByteArray)).bind fun t430 => ((spec_twFar.f k t430).bind fun bt431 => ((spec_riAll.f k a0 (⟨#[49]⟩ : ByteArray)).bind fun t437 => ((spec_riNumber.f k t437).bind fun t438 => (if 0 ≤ t438 then (if t438 < (bt431.1.length : Int) then (some (rd bt431.1 t438, true)) else (none)) else (none)))))) else (some (0, false)))) = some (r1, r2) := h
 clear h
 replace H := Option.bind_eq_some_iff.mp H
 obtain ⟨t429, A20, H⟩ := H
 replace H : (if t429 = true then ((spec_riAll.f k a0 (⟨#[48]⟩ : ByteArray)).bind fun t430 => ((spec_twFar.f k t430).bind fun bt431 => ((spec_riAll.f k a0 (⟨#[49]⟩ : ByteArray)).bind fun t437 => ((spec_riNumber.f k t437).bind fun t438 => (if 0 ≤ t438 then (if t438 < (bt431.1.length : Int) then (some (rd bt431.1 t438, true)) else (none)) else (none)))))) else (some (0, false))) = some (r1, r2) := H
 have A2 := aM A20
 clear A20
 by_cases c3 : t429 = true
 ·subst c3
  have H1 : ((spec_riAll.f k a0 (⟨#[48]⟩ : ByteArray)).bind fun t430 => ((spec_twFar.f k t430).bind fun bt431 => ((spec_riAll.f k a0 (⟨#[49]⟩ : ByteArray)).bind fun t437 => ((spec_riNumber.f k t437).bind fun t438 => (if 0 ≤ t438 then (if t438 < (bt431.1.length : Int) then (some (rd bt431.1 t438, true)) else (none)) else (none)))))) = some (r1, r2) := by rw [if_pos rfl] at H; exact H
  clear H; have H := H1; clear H1
  replace H := Option.bind_eq_some_iff.mp H
  obtain ⟨t430, A40, H⟩ := H
  replace H : ((spec_twFar.f k t430).bind fun bt431 => ((spec_riAll.f k a0 (⟨#[49]⟩ : ByteArray)).bind fun t437 => ((spec_riNumber.f k t437).bind fun t438 => (if 0 ≤ t438 then (if t438 < (bt431.1.length : Int) then (some (rd bt431.1 t438, true)) else (none)) else (none))))) = some (r1, r2) := H
  have A4 := aM A40
  clear A40
  replace H := Option.bind_eq_some_iff.mp H
  obtain ⟨⟨t431, t432⟩, A50, H⟩ := H
  replace H : ((spec_riAll.f k a0 (⟨#[49]⟩ : ByteArray)).bind fun t437 => ((spec_riNumber.f k t437).bind fun t438 => (if 0 ≤ t438 then (if t438 < (t431.length : Int) then (some (rd t431 t438, true)) else (none)) else (none)))) = some (r1, r2) := H
  have A5 := aM A50
  clear A50
  replace H := Option.bind_eq_some_iff.mp H
  obtain ⟨t437, A60, H⟩ := H
  replace H : ((spec_riNumber.f k t437).bind fun t438 => (if 0 ≤ t438 then (if t438 < (t431.length : Int) then (some (rd t431 t438, true)) else (none)) else (none))) = some (r1, r2) := H
  have A6 := aM A60
  clear A60
  replace H := Option.bind_eq_some_iff.mp H
  obtain ⟨t438, A70, H⟩ := H
  replace H : (if 0 ≤ t438 then (if t438 < (t431.length : Int) then (some (rd t431 t438, true)) else (none)) else (none)) = some (r1, r2) := H
  have A7 := aM A70
  clear A70
  by_cases c8 : 0 ≤ t438
  ·rw [if_pos c8] at H
   have c8b0 : decide (0 ≤ t438) = true := decide_eq_true c8
   clear c8
   by_cases c9 : t438 < (t431.length : Int)
   ·rw [if_pos c9] at H
    have c9b0 : decide (t438 < (t431.length : Int)) = true := decide_eq_true c9
    clear c9
    simp only [Option.some.injEq, Prod.mk.injEq] at H
    obtain ⟨rfl, rfl⟩ := H
    go_enter Tryz.func21, Tryz.ntmps21
    go_wp2_with (first | ((with_reducible refine gate_callee (f := 41) rfl ?_); refine goesL_ (some 7) rfl rfl Tryz.func41 (by kernel_rfl) rfl #[.int .i64 a0] rfl (by (try simp only [List.map_toArray, List.map_cons, List.map_nil]); first | done | rfl | (simp only [List.length_drop, List.length_take]; rfl)) ?_; (with_reducible refine (spec_twRings.calls a0 true _ A2.out).mono ?_); rintro e w' ⟨rfl, ⟨nd, rfl⟩⟩; refine ⟨_, rfl, ?_⟩) | ((with_reducible refine gate_callee (f := 42) rfl ?_); refine goesL_ (some 11) rfl rfl Tryz.func42 (by kernel_rfl) rfl #[.int .i64 a0, .string (⟨#[48]⟩ : ByteArray)] rfl (by (try simp only [List.map_toArray, List.map_cons, List.map_nil]); first | done | rfl | (simp only [List.length_drop, List.length_take]; rfl)) ?_; (with_reducible refine (spec_riAll.calls k a0 (⟨#[48]⟩ : ByteArray) t430 _ A4.out).mono ?_); rintro e w' ⟨rfl, ⟨nd, rfl⟩⟩; refine ⟨_, rfl, ?_⟩) | ((with_reducible refine gate_callee (f := 32) rfl ?_); refine goesL_ (some 12) rfl rfl Tryz.func32 (by kernel_rfl) rfl #[.string t430] rfl (by (try simp only [List.map_toArray, List.map_cons, List.map_nil]); first | done | rfl | (simp only [List.length_drop, List.length_take]; rfl)) ?_; (with_reducible refine (spec_twFar.calls k t430 t431 t432 _ A5.out).mono ?_); rintro e w10 ⟨v433, v435, rfl, ho0, ho1, hb⟩; refine ⟨_, rfl, ?_⟩; have n0_ := aM (Kd.R_lower ho0 (below_size (by repeat (first | (with_reducible first | exact HB.out | apply bA | apply bN | apply bD) | exact HB.out)))); have n1_ := aM (Kd.R_lower ho1 (below_size (by repeat (first | (with_reducible first | exact HB.out | apply bA | apply bN | apply bD) | exact HB.out)))); have n2_ := aM (below_step (by repeat (first | (with_reducible first | exact HB.out | apply bA | apply bN | apply bD) | exact HB.out)) hb); clear HB; have HO434 := n0_; have HO436 := n1_; have HB := n2_; clear n0_ n1_ n2_; (try clear hb); (try clear hb2); (try clear hk); (try clear hi); (try clear ho0); (try clear ho1)) | ((with_reducible refine gate_callee (f := 42) rfl ?_); refine goesL_ (some 17) rfl rfl Tryz.func42 (by kernel_rfl) rfl #[.int .i64 a0, .string (⟨#[49]⟩ : ByteArray)] rfl (by (try simp only [List.map_toArray, List.map_cons, List.map_nil]); first | done | rfl | (simp only [List.length_drop, List.length_take]; rfl)) ?_; (with_reducible refine (spec_riAll.calls k a0 (⟨#[49]⟩ : ByteArray) t437 _ A6.out).mono ?_); rintro e w' ⟨rfl, ⟨nd, rfl⟩⟩; refine ⟨_, rfl, ?_⟩) | ((with_reducible refine gate_callee (f := 44) rfl ?_); refine goesL_ (some 18) rfl rfl Tryz.func44 (by kernel_rfl) rfl #[.string t437] rfl (by (try simp only [List.map_toArray, List.map_cons, List.map_nil]); first | done | rfl | (simp only [List.length_drop, List.length_take]; rfl)) ?_; (with_reducible refine (spec_riNumber.calls k t437 t438 _ A7.out).mono ?_); rintro e w' ⟨rfl, ⟨nd, rfl⟩⟩; refine ⟨_, rfl, ?_⟩; obtain ⟨Ao11, co11, eo11⟩ := Kd.R_slice HO434.out; subst eo11; have p439 : 0 ≤ (t438 : Int) := of_decide_eq_true (by first | (with_reducible assumption) | assumption); have q439 : t438 < (t431.length : Int) := of_decide_eq_true (by first | (with_reducible assumption) | assumption); obtain ⟨ad439, e439, hx439_0⟩ := Kd.at_int (Kd.R_reads' HO434.out).2.2 t438 p439 q439; cases e439; replace p439 := eq_true p439; replace q439 := eq_true q439))
    go_ret2
    exact ⟨by first | rfl | (simp [errW_none, errW_some] <;> rfl) | (simp [*, errW_none, errW_some] <;> rfl), by repeat (first | (with_reducible first | exact HB.out | apply bA | apply bN | apply bD) | exact HB.out)⟩
   ·rw [if_neg c9] at H
    exact absurd H (by simp)
  ·rw [if_neg c8] at H
   exact absurd H (by simp)
 ·replace c3 := Bool.eq_false_iff.mpr c3
  subst c3
  have H1 : (some (0, false)) = some (r1, r2) := by rw [if_neg (show ¬ (false = true) by decide)] at H; exact H
  clear H; have H := H1; clear H1
  simp only [Option.some.injEq, Prod.mk.injEq] at H
  obtain ⟨rfl, rfl⟩ := H
  go_enter Tryz.func21, Tryz.ntmps21
  go_wp2_with (first | ((with_reducible refine gate_callee (f := 41) rfl ?_); refine goesL_ (some 7) rfl rfl Tryz.func41 (by kernel_rfl) rfl #[.int .i64 a0] rfl (by (try simp only [List.map_toArray, List.map_cons, List.map_nil]); first | done | rfl | (simp only [List.length_drop, List.length_take]; rfl)) ?_; (with_reducible refine (spec_twRings.calls a0 false _ A2.out).mono ?_); rintro e w' ⟨rfl, ⟨nd, rfl⟩⟩; refine ⟨_, rfl, ?_⟩))
  go_ret2
  exact ⟨by first | rfl | (simp [errW_none, errW_some] <;> rfl) | (simp [*, errW_none, errW_some] <;> rfl), by repeat (first | (with_reducible first | exact HB.out | apply bA | apply bN | apply bD) | exact HB.out)⟩

end Go.Proofs.YtgfjgpnaalblbaaGreatDoor.PN
