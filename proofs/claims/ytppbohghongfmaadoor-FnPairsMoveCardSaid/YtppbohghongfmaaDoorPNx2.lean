-- written by a program of this session's (wip/tools), over the kit's print
import Derived.Test.YtppbohghongfmaaDoorPNx0
-- squeezed
-- squeezed twice
namespace Go.Proofs.YtppbohghongfmaaDoor.PN
open Go.RowKit Go.Proofs.YtppbohghongfmaaDoorW.PrintWords Go.Proofs.YtppbohghongfmaaDoorW.PrintLast Go.Proofs.YtppbohghongfmaaDoorW.PrintMore
attribute [local go_sem] max2_int min2_int max_two min_two max_three min_three max_four min_four   -- for this text's walks alone
set_option linter.unusedVariables false
set_option linter.unusedSimpArgs false

/-! ### impl_in: function 59 -/
def impl_in.f (a0 : Int) (a1 : Int) (a2 : Int) : Option (Bool) := if a0 ≥ a1 then (some (decide (a0 ≤ a2))) else (some false)
set_option maxHeartbeats 8000000 in
set_option maxRecDepth 100000 in
theorem impl_in.calls (a0 : Int) (a1 : Int) (a2 : Int) (r : Bool) (w : World) (h : impl_in.f a0 a1 a2 = some r) :
  Calls Tryd.prog 59 #[.int .i64 a0, .int .i64 a1, .int .i64 a2] w fun e w' => e = .returned (.bool r) ∧ Drawn0 w w' := by
 have H := h; clear h; unfold impl_in.f at H
 replace H := iE H; obtain ⟨c4b0, H⟩ | ⟨c4b0, H⟩ := H
 ·obtain rfl := Option.some.inj H
  go_enter Tryd.func59, Tryd.ntmps59
  go_wp2
  go_ret
  exact ⟨rfl, by repeat (first | exact Drawn0.refl _ | apply Drawn0.step)⟩
 ·obtain rfl := Option.some.inj H
  go_enter Tryd.func59, Tryd.ntmps59
  go_wp2
  go_ret
  exact ⟨rfl, by repeat (first | exact Drawn0.refl _ | apply Drawn0.step)⟩

/-! ### strings_Trim: function 68 (told by hand) -/
/-- strings.Trim at a cutset of ASCII bytes: the shelf's contract. -/
def strings_Trim.f (a0 a1 : ByteArray) : Option ByteArray :=
 if a0.size ≤ 9223372036854775807 ∧ a1.size < 4294967281 ∧ a1.data.toList.all (fun b => decide (b.toNat < 128)) = true then some ⟨(Lib.trimS a0.data.toList a1.data.toList).toArray⟩ else none
set_option maxHeartbeats 8000000 in
set_option maxRecDepth 100000 in
theorem strings_Trim.calls (a0 : ByteArray) (a1 : ByteArray) (r : ByteArray) (w : World) (h : strings_Trim.f a0 a1 = some r) :
  Calls Tryd.prog 68 #[.string a0, .string a1] w fun e w' => e = .returned (.string r) ∧ Below w.heap.size w w' := by
 unfold strings_Trim.f at h
 split at h
 ·rename_i hc
  obtain rfl := Option.some.inj h
  exact Tryd.strings_Trim_laid a0 a1 w hc.1 hc.2.1 (ascii_of_all hc.2.2)
 ·exact absurd h (by simp)

/-! ### impl_IsState: function 53 -/
def impl_IsState.f (a0 : ByteArray) : Option (Bool) := (impl_in.f (a0.size : Int) 1 20).bind fun t175 => (if t175 = true then ((strings_Trim.f a0 (⟨#[48, 49]⟩ : ByteArray)).bind fun t176 => (some (t176.toList == ([] : List UInt8)))) else (some false))
set_option maxHeartbeats 8000000 in
set_option maxRecDepth 100000 in
theorem impl_IsState.calls (a0 : ByteArray) (r : Bool) (w : World) (h : impl_IsState.f a0 = some r) :
  Calls Tryd.prog 53 #[.string a0] w fun e w' => e = .returned (.bool r) ∧ Below w.heap.size w w' := by
 have HB := aM (Below.refl w.heap.size w)
 have H := h; clear h; unfold impl_IsState.f at H
 replace H := jS H; obtain ⟨t175, A2, H⟩ := H
 by_cases c3 : t175 = true
 ·subst c3
  replace H := jT H
  replace H := jS H; obtain ⟨t176, A4, H⟩ := H
  obtain rfl := Option.some.inj H
  go_enter Tryd.func53, Tryd.ntmps53
  go_wp2_with (first | ((with_reducible refine gC 59 rfl ?_); refine gL (some 5) Tryd.func59 #[.int .i64 (a0.size : Int), .int .i64 1, .int .i64 20] ?_; (with_reducible refine (impl_in.calls (a0.size : Int) 1 20 true _ A2.out).mono ?_); rintro e w' ⟨rfl, ⟨nd, rfl⟩⟩; refine ⟨_, rfl, ?_⟩) | (go_at_call 68; (with_reducible refine (strings_Trim.calls a0 (⟨#[48, 49]⟩ : ByteArray) t176 _ A4.out).mono ?_); rintro e w5 ⟨rfl, hb⟩; replace HB := aM (below_step bQ hb); (try clear hb)))
  go_ret
  exact ⟨by first | rfl | (simp [errW_none, errW_some] <;> rfl) | (simp [*, errW_none, errW_some] <;> rfl), bQ⟩
 ·replace c3 := Bool.eq_false_iff.mpr c3
  subst c3
  replace H := jF H
  obtain rfl := Option.some.inj H
  go_enter Tryd.func53, Tryd.ntmps53
  go_wp2_with (first | ((with_reducible refine gC 59 rfl ?_); refine gL (some 5) Tryd.func59 #[.int .i64 (a0.size : Int), .int .i64 1, .int .i64 20] ?_; (with_reducible refine (impl_in.calls (a0.size : Int) 1 20 false _ A2.out).mono ?_); rintro e w' ⟨rfl, ⟨nd, rfl⟩⟩; refine ⟨_, rfl, ?_⟩))
  go_ret
  exact ⟨rfl, bQ⟩

/-! ### impl_isPaired: function 42 -/
def impl_isPaired.f (a0 : ByteArray) : Option (Bool) := (impl_IsState.f a0).bind fun t177 => (if t177 = true then ((impl_in.f (a0.size : Int) 2 12).bind fun t178 => (some t178)) else (some false))
set_option maxHeartbeats 8000000 in
set_option maxRecDepth 100000 in
theorem impl_isPaired.calls (a0 : ByteArray) (r : Bool) (w : World) (h : impl_isPaired.f a0 = some r) :
  Calls Tryd.prog 42 #[.string a0] w fun e w' => e = .returned (.bool r) ∧ Below w.heap.size w w' := by
 have HB := aM (Below.refl w.heap.size w)
 have H := h; clear h; unfold impl_isPaired.f at H
 replace H := jS H; obtain ⟨t177, A2, H⟩ := H
 by_cases c3 : t177 = true
 ·subst c3
  replace H := jT H
  replace H := jS H; obtain ⟨t178, A4, H⟩ := H
  obtain rfl := Option.some.inj H
  go_enter Tryd.func42, Tryd.ntmps42
  go_wp2_with (first | ((with_reducible refine gC 53 rfl ?_); refine gL (some 4) Tryd.func53 #[.string a0] ?_; (with_reducible refine (impl_IsState.calls a0 true _ A2.out).mono ?_); rintro e w5 ⟨rfl, hb⟩; refine ⟨_, rfl, ?_⟩; replace HB := aM (below_step HB.out hb); (try clear hb)) | (go_at_call 59; (with_reducible refine (impl_in.calls (a0.size : Int) 2 12 t178 _ A4.out).mono ?_); rintro e w' ⟨rfl, ⟨nd, rfl⟩⟩))
  go_ret
  exact ⟨rfl, bQ⟩
 ·replace c3 := Bool.eq_false_iff.mpr c3
  subst c3
  replace H := jF H
  obtain rfl := Option.some.inj H
  go_enter Tryd.func42, Tryd.ntmps42
  go_wp2_with (first | ((with_reducible refine gC 53 rfl ?_); refine gL (some 4) Tryd.func53 #[.string a0] ?_; (with_reducible refine (impl_IsState.calls a0 false _ A2.out).mono ?_); rintro e w6 ⟨rfl, hb⟩; refine ⟨_, rfl, ?_⟩; replace HB := aM (below_step HB.out hb); (try clear hb)))
  go_ret
  exact ⟨rfl, HB.out⟩

/-! ### impl_arePaired: function 31 -/
def impl_arePaired.f (a0 : ByteArray) (a1 : ByteArray) : Option (Bool) := (impl_isPaired.f a0).bind fun t179 => (if t179 = true then ((impl_isPaired.f a1).bind fun t180 => (if t180 = true then (some ((a0.size : Int) == (a1.size : Int))) else (some false))) else (some false))
set_option maxHeartbeats 8000000 in
set_option maxRecDepth 100000 in
theorem impl_arePaired.calls (a0 : ByteArray) (a1 : ByteArray) (r : Bool) (w : World) (h : impl_arePaired.f a0 a1 = some r) :
  Calls Tryd.prog 31 #[.string a0, .string a1] w fun e w' => e = .returned (.bool r) ∧ Below w.heap.size w w' := by
 have HB := aM (Below.refl w.heap.size w)
 have H := h; clear h; unfold impl_arePaired.f at H
 replace H := jS H; obtain ⟨t179, A3, H⟩ := H
 by_cases c4 : t179 = true
 ·subst c4
  replace H := jT H
  replace H := jS H; obtain ⟨t180, A5, H⟩ := H
  by_cases c6 : t180 = true
  ·subst c6
   replace H := jT H
   obtain rfl := Option.some.inj H
   go_enter Tryd.func31, Tryd.ntmps31
   go_wp2_with (first | ((with_reducible refine gC 42 rfl ?_); refine gL (some 6) Tryd.func42 #[.string a0] ?_; (with_reducible refine (impl_isPaired.calls a0 true _ A3.out).mono ?_); rintro e w7 ⟨rfl, hb⟩; refine ⟨_, rfl, ?_⟩; replace HB := aM (below_step HB.out hb); (try clear hb)) | (go_at_call 42; (with_reducible refine (impl_isPaired.calls a1 true _ A5.out).mono ?_); rintro e w8 ⟨rfl, hb⟩; replace HB := aM (below_step HB.out hb); (try clear hb)))
   go_ret
   exact ⟨rfl, HB.out⟩
  ·replace c6 := Bool.eq_false_iff.mpr c6
   subst c6
   replace H := jF H
   obtain rfl := Option.some.inj H
   go_enter Tryd.func31, Tryd.ntmps31
   go_wp2_with (first | ((with_reducible refine gC 42 rfl ?_); refine gL (some 6) Tryd.func42 #[.string a0] ?_; (with_reducible refine (impl_isPaired.calls a0 true _ A3.out).mono ?_); rintro e w9 ⟨rfl, hb⟩; refine ⟨_, rfl, ?_⟩; replace HB := aM (below_step HB.out hb); (try clear hb)) | (go_at_call 42; (with_reducible refine (impl_isPaired.calls a1 false _ A5.out).mono ?_); rintro e w10 ⟨rfl, hb⟩; replace HB := aM (below_step HB.out hb); (try clear hb)))
   go_ret
   exact ⟨rfl, HB.out⟩
 ·replace c4 := Bool.eq_false_iff.mpr c4
  subst c4
  replace H := jF H
  obtain rfl := Option.some.inj H
  go_enter Tryd.func31, Tryd.ntmps31
  go_wp2_with (first | ((with_reducible refine gC 42 rfl ?_); refine gL (some 6) Tryd.func42 #[.string a0] ?_; (with_reducible refine (impl_isPaired.calls a0 false _ A3.out).mono ?_); rintro e w11 ⟨rfl, hb⟩; refine ⟨_, rfl, ?_⟩; replace HB := aM (below_step HB.out hb); (try clear hb)))
  go_ret
  exact ⟨rfl, HB.out⟩

/-! ### impl_unreflected: function 55 -/
def impl_unreflected.l0 : Nat → Int → Int → Option (Int)
 | 0, _, _ => none
 | k + 1, x0, x3 => if x0 > 0 then (impl_unreflected.l0 k (wrap64 (Int.tdiv x0 2)) (Go.bits .xor .i64 x3 x0)) else (some x3)
def impl_unreflected.f (k : Nat) (a0 : Int) : Option (Int) := impl_unreflected.l0 k a0 0
theorem impl_unreflected.mono_l : ∀ k, (∀ y0 y1, LeO (impl_unreflected.l0 k y0 y1) (impl_unreflected.l0 (k + 1) y0 y1))
 | 0 => fun _ _ r h => by simp [impl_unreflected.l0] at h
 | k + 1 => by
  have ih0 := impl_unreflected.mono_l k
  ·intro y0 y1
   unfold impl_unreflected.l0
   with_reducible repeat' first | exact ih0 _ _ | exact LeO.refl _ | exact LeO.none _ | refine LeO.ite ?_ ?_ | refine LeO.bind ?_ (fun _ => ?_)
theorem impl_unreflected.mono : ∀ a0 k, LeO (impl_unreflected.f k a0) (impl_unreflected.f (k + 1) a0) := by
 intro a0 k
 have ih0 := impl_unreflected.mono_l k
 unfold impl_unreflected.f
 with_reducible repeat' first | exact ih0 _ _ | exact LeO.refl _ | exact LeO.none _ | refine LeO.ite ?_ ?_ | refine LeO.bind ?_ (fun _ => ?_)
set_option maxHeartbeats 8000000 in
set_option maxRecDepth 100000 in
theorem impl_unreflected.calls (k : Nat) (a0 : Int) (r : Int) (w : World) (h : impl_unreflected.f k a0 = some r) :
  Calls Tryd.prog 55 #[.int .i64 a0] w fun e w' => e = .returned (.int .i64 r) ∧ Drawn0 w w' := by
 have H := h; clear h; unfold impl_unreflected.f at H
 have H' := aM H
 clear H
 go_enter Tryd.func55, Tryd.ntmps55
 go_wp2
 go_loopg [0, 3] k (fun kq v0 v3 w' => ∃ (x0_1 : Int) (x3_1 : Int), v0 = .int .i64 x0_1 ∧ v3 = .int .i64 x3_1 ∧ Aside0 (impl_unreflected.l0 kq x0_1 x3_1 = some r) ∧ Aside0 (kq ≤ k) ∧ Drawn0 w w')
 case atStart => exact ⟨(a0), (0), rfl, rfl, H', ⟨Nat.le_refl _⟩, by repeat (first | exact Drawn0.refl _ | apply Drawn0.step)⟩
 case round =>
  clear H'
  obtain ⟨x0_1, x3_1, rfl, rfl, HA, HK1, ⟨m1, rfl⟩⟩ := hrel
  cases gk with
  | zero => exact absurd HA.out (by simp [impl_unreflected.l0])
  | succ k1 =>
   have H := HA.out
   clear HA
   simp only [impl_unreflected.l0] at H
   replace H := iE H; obtain ⟨c2b0, H⟩ | ⟨c2b0, H⟩ := H
   ·have H' := aM H
    clear H
    go_wp2
    go_roundg k1
    case measure => have := HK1.out; omega
    case rel => exact ⟨(wrap64 (Int.tdiv x0_1 2)), (Go.bits .xor .i64 x3_1 x0_1), rfl, rfl, H', ⟨by have := HK1.out; omega⟩, by repeat (first | exact Drawn0.refl _ | apply Drawn0.step)⟩
   ·obtain rfl := Option.some.inj H
    go_wp2
    go_ret
    exact ⟨rfl, by repeat (first | exact Drawn0.refl _ | apply Drawn0.step)⟩

/-! ### impl_bits: function 56 -/
def impl_bits.l0 : Nat → ByteArray → Int → Int → Option (Int)
 | 0, _, _, _ => none
 | k + 1, x0, x3, x4 => if x4 ≥ 0 then (if 0 ≤ x4 then (if x4 < (x0.size : Int) then (impl_bits.l0 k x0 (wrap64 ((wrap64 (2 * x3)) + (((bt x0 x4) - 48) % 256))) (wrap64 (x4 - 1))) else (none)) else (none)) else (some x3)
def impl_bits.f (k : Nat) (a0 : ByteArray) : Option (Int) := impl_bits.l0 k a0 0 (wrap64 ((a0.size : Int) - 1))
theorem impl_bits.mono_l : ∀ k, (∀ y0 y1 y2, LeO (impl_bits.l0 k y0 y1 y2) (impl_bits.l0 (k + 1) y0 y1 y2))
 | 0 => fun _ _ _ r h => by simp [impl_bits.l0] at h
 | k + 1 => by
  have ih0 := impl_bits.mono_l k
  ·intro y0 y1 y2
   unfold impl_bits.l0
   with_reducible repeat' first | exact ih0 _ _ _ | exact LeO.refl _ | exact LeO.none _ | refine LeO.ite ?_ ?_ | refine LeO.bind ?_ (fun _ => ?_)
theorem impl_bits.mono : ∀ a0 k, LeO (impl_bits.f k a0) (impl_bits.f (k + 1) a0) := by
 intro a0 k
 have ih0 := impl_bits.mono_l k
 unfold impl_bits.f
 with_reducible repeat' first | exact ih0 _ _ _ | exact LeO.refl _ | exact LeO.none _ | refine LeO.ite ?_ ?_ | refine LeO.bind ?_ (fun _ => ?_)
set_option maxHeartbeats 8000000 in
set_option maxRecDepth 100000 in
theorem impl_bits.calls (k : Nat) (a0 : ByteArray) (r : Int) (w : World) (h : impl_bits.f k a0 = some r) :
  Calls Tryd.prog 56 #[.string a0] w fun e w' => e = .returned (.int .i64 r) ∧ Drawn0 w w' := by
 have H := h; clear h; unfold impl_bits.f at H
 have H' := aM H
 clear H
 go_enter Tryd.func56, Tryd.ntmps56
 go_wp2
 go_loopg [3, 4] k (fun kq v3 v4 w' => ∃ (x3_1 : Int) (x4_1 : Int), v3 = .int .i64 x3_1 ∧ v4 = .int .i64 x4_1 ∧ Aside0 (impl_bits.l0 kq a0 x3_1 x4_1 = some r) ∧ Aside0 (kq ≤ k) ∧ Drawn0 w w')
 case atStart => exact ⟨(0), (wrap64 ((a0.size : Int) - 1)), rfl, rfl, H', ⟨Nat.le_refl _⟩, by repeat (first | exact Drawn0.refl _ | apply Drawn0.step)⟩
 case round =>
  clear H'
  obtain ⟨x3_1, x4_1, rfl, rfl, HA, HK1, ⟨m1, rfl⟩⟩ := hrel
  cases gk with
  | zero => exact absurd HA.out (by simp [impl_bits.l0])
  | succ k1 =>
   have H := HA.out
   clear HA
   simp only [impl_bits.l0] at H
   replace H := iO H; obtain ⟨c2, H⟩ | ⟨c2, H⟩ := H
   ·have c2b0 := decide_eq_true c2
    clear c2
    replace H := iC H; obtain ⟨c3, H⟩ := H
    have c3b0 := decide_eq_true c3
    clear c3
    replace H := iN H; obtain ⟨c4b0, H⟩ := H
    have H' := aM H
    clear H; have p5 : 0 ≤ (x4_1 : Int) := oD; have q5 : x4_1 < (a0.size : Int) := oD
    have hx5 := bt_at a0 x4_1
    replace p5 := eq_true p5; replace q5 := eq_true q5
    go_wp2
    go_roundg k1
    case measure => have := HK1.out; omega
    case rel => exact ⟨(wrap64 ((wrap64 (2 * x3_1)) + (((bt a0 x4_1) - 48) % 256))), (wrap64 (x4_1 - 1)), rfl, rfl, H', ⟨by have := HK1.out; omega⟩, by repeat (first | exact Drawn0.refl _ | apply Drawn0.step)⟩
   ·have c2b0 := decide_eq_false c2
    clear c2
    obtain rfl := Option.some.inj H
    go_wp2
    go_ret
    exact ⟨rfl, by repeat (first | exact Drawn0.refl _ | apply Drawn0.step)⟩

/-! ### impl_number: function 33 -/
def impl_number.f (k : Nat) (a0 : ByteArray) : Option (Int) := (impl_bits.f k a0).bind fun t181 => ((impl_unreflected.f k t181).bind fun t182 => (some t182))
theorem impl_number.mono : ∀ a0 k, LeO (impl_number.f k a0) (impl_number.f (k + 1) a0) := by
 intro a0 k
 unfold impl_number.f
 with_reducible repeat' first | exact impl_bits.mono _ _ | exact impl_unreflected.mono _ _ | exact LeO.refl _ | exact LeO.none _ | refine LeO.ite ?_ ?_ | refine LeO.bind ?_ (fun _ => ?_)
set_option maxHeartbeats 8000000 in
set_option maxRecDepth 100000 in
theorem impl_number.calls (k : Nat) (a0 : ByteArray) (r : Int) (w : World) (h : impl_number.f k a0 = some r) :
  Calls Tryd.prog 33 #[.string a0] w fun e w' => e = .returned (.int .i64 r) ∧ Drawn0 w w' := by
 have H := h; clear h; unfold impl_number.f at H
 replace H := jS H; obtain ⟨t181, A2, H⟩ := H
 replace H := jS H; obtain ⟨t182, A3, H⟩ := H
 obtain rfl := Option.some.inj H
 go_enter Tryd.func33, Tryd.ntmps33
 go_wp2_with (first | ((with_reducible refine gC 56 rfl ?_); refine gL (some 4) Tryd.func56 #[.string a0] ?_; (with_reducible refine (impl_bits.calls k a0 t181 _ A2.out).mono ?_); rintro e w' ⟨rfl, ⟨nd, rfl⟩⟩; refine ⟨_, rfl, ?_⟩) | ((with_reducible refine gC 55 rfl ?_); refine gL (some 5) Tryd.func55 #[.int .i64 t181] ?_; (with_reducible refine (impl_unreflected.calls k t181 t182 _ A3.out).mono ?_); rintro e w' ⟨rfl, ⟨nd, rfl⟩⟩; refine ⟨_, rfl, ?_⟩))
 go_ret
 exact ⟨rfl, by repeat (first | exact Drawn0.refl _ | apply Drawn0.step)⟩

/-! ### impl_canMove: function 60 -/
def impl_canMove.f (a0 : ByteArray) (a1 : Int) : Option (Bool) := if a1 = 0 then (some true) else ((impl_in.f a1 1 (wrap64 ((a0.size : Int) - 1))).bind fun t183 => (if t183 = true then (if 0 ≤ (wrap64 (a1 - 1)) then (if (wrap64 (a1 - 1)) < (a0.size : Int) then (if (bt a0 (wrap64 (a1 - 1))) = 49 then (if (wrap64 (a1 - 1)) ≤ (a0.size : Int) then ((strings_Trim.f (a0.extract 0 ((wrap64 (a1 - 1)) : Int).toNat) (⟨#[48]⟩ : ByteArray)).bind fun t184 => (some (t184.toList == ([] : List UInt8)))) else (none)) else (some false)) else (none)) else (none)) else (some false)))
set_option maxHeartbeats 8000000 in
set_option maxRecDepth 100000 in
theorem impl_canMove.calls (a0 : ByteArray) (a1 : Int) (r : Bool) (w : World) (h : impl_canMove.f a0 a1 = some r) :
  Calls Tryd.prog 60 #[.string a0, .int .i64 a1] w fun e w' => e = .returned (.bool r) ∧ Below w.heap.size w w' := by
 have HB := aM (Below.refl w.heap.size w)
 have H := h; clear h; unfold impl_canMove.f at H
 replace H := iO H; obtain ⟨c3, H⟩ | ⟨c3, H⟩ := H
 ·have c3b0 : (a1 == 0) = true := beq_iff_eq.mpr c3
  have c3b1 : (a1 != 0) = false := bne_eq_false_iff_eq.mpr c3
  clear c3
  obtain rfl := Option.some.inj H
  go_enter Tryd.func60, Tryd.ntmps60
  go_wp2
  go_ret
  exact ⟨rfl, HB.out⟩
 ·have c3b0 : (a1 == 0) = false := beq_eq_false_iff_ne.mpr c3
  have c3b1 : (a1 != 0) = true := bne_iff_ne.mpr c3
  replace H := jS H; obtain ⟨t183, A4, H⟩ := H
  by_cases c5 : t183 = true
  ·subst c5
   replace H := jT H
   obtain ⟨ji6, hji6⟩ : ∃ j_ : Int, (wrap64 (a1 - 1)) = j_ := ⟨_, rfl⟩
   replace H : (if 0 ≤ (ji6) then (if (ji6) < (a0.size : Int) then (if (bt a0 (ji6)) = 49 then (if (ji6) ≤ (a0.size : Int) then ((strings_Trim.f (a0.extract 0 ((ji6) : Int).toNat) (⟨#[48]⟩ : ByteArray)).bind fun t184 => (some (t184.toList == ([] : List UInt8)))) else (none)) else (some false)) else (none)) else (none)) = some r := by first | (rw [hji6] at H; exact H) | (simp only [hji6] at H ⊢; exact H)
   (try rw [hji6] at A4)
   have hji6w : (IntKind.i64.wrap (a1 - 1)) = ji6 := (i64_w _).trans hji6
   replace H := iC H; obtain ⟨c7, H⟩ := H
   have c7b0 := decide_eq_true c7
   clear c7
   replace H := iC H; obtain ⟨c8, H⟩ := H
   have c8b0 := decide_eq_true c8
   clear c8
   replace H := iO H; obtain ⟨c10, H⟩ | ⟨c10, H⟩ := H
   ·have c10b0 : ((bt a0 (ji6)) == 49) = true := beq_iff_eq.mpr c10
    have c10b1 : ((bt a0 (ji6)) != 49) = false := bne_eq_false_iff_eq.mpr c10
    clear c10
    have c11b0 := eq_true (oD : 0 ≤ (ji6))
    replace H := iT H; obtain ⟨c12b0, c12b1, H⟩ := H
    replace H := jS H; obtain ⟨t184, A13, H⟩ := H
    obtain rfl := Option.some.inj H
    go_enter Tryd.func60, Tryd.ntmps60
    go_wp2_with (first | (go_at_call 59; (with_reducible refine (impl_in.calls a1 1 (wrap64 ((a0.size : Int) - 1)) true _ A4.out).mono ?_); rintro e w' ⟨rfl, ⟨nd, rfl⟩⟩; have p9 : 0 ≤ ((ji6) : Int) := oD; have q9 : (ji6) < (a0.size : Int) := oD; have hx9 := bt_at a0 (ji6); replace p9 := eq_true p9; replace q9 := eq_true q9) | (go_at_call 68; (with_reducible refine (strings_Trim.calls (a0.extract 0 ((ji6) : Int).toNat) (⟨#[48]⟩ : ByteArray) t184 _ A13.out).mono ?_); rintro e w14 ⟨rfl, hb⟩; replace HB := aM (below_step bQ hb); (try clear hb)))
    go_ret
    exact ⟨by first | rfl | (simp [errW_none, errW_some] <;> rfl) | (simp only [← hji6]; first | rfl | (simp [errW_none, errW_some] <;> rfl)) | (simp [*, errW_none, errW_some] <;> rfl), HB.out⟩
   ·have c10b0 : ((bt a0 (ji6)) == 49) = false := beq_eq_false_iff_ne.mpr c10
    have c10b1 : ((bt a0 (ji6)) != 49) = true := bne_iff_ne.mpr c10
    obtain rfl := Option.some.inj H
    go_enter Tryd.func60, Tryd.ntmps60
    go_wp2_with (first | (go_at_call 59; (with_reducible refine (impl_in.calls a1 1 (wrap64 ((a0.size : Int) - 1)) true _ A4.out).mono ?_); rintro e w' ⟨rfl, ⟨nd, rfl⟩⟩; have p9 : 0 ≤ ((ji6) : Int) := oD; have q9 : (ji6) < (a0.size : Int) := oD; have hx9 := bt_at a0 (ji6); replace p9 := eq_true p9; replace q9 := eq_true q9))
    go_ret
    exact ⟨by first | rfl | (simp [errW_none, errW_some] <;> rfl) | (simp only [← hji6]; first | rfl | (simp [errW_none, errW_some] <;> rfl)) | (simp [*, errW_none, errW_some] <;> rfl), bQ⟩
  ·replace c5 := Bool.eq_false_iff.mpr c5
   subst c5
   replace H := jF H
   obtain rfl := Option.some.inj H
   go_enter Tryd.func60, Tryd.ntmps60
   go_wp2_with (first | (go_at_call 59; (with_reducible refine (impl_in.calls a1 1 (wrap64 ((a0.size : Int) - 1)) false _ A4.out).mono ?_); rintro e w' ⟨rfl, ⟨nd, rfl⟩⟩))
   go_ret
   exact ⟨rfl, bQ⟩

/-! ### impl_canPair: function 43 -/
def impl_canPair.f (a0 : ByteArray) (a1 : Int) : Option (Bool) := if a1 = (-1) then (if 0 < (a0.size : Int) then (if 1 < (a0.size : Int) then (some ((bt a0 0) == (bt a0 1))) else (none)) else (none)) else ((impl_canMove.f a0 a1).bind fun t185 => (some t185))
set_option maxHeartbeats 8000000 in
set_option maxRecDepth 100000 in
theorem impl_canPair.calls (a0 : ByteArray) (a1 : Int) (r : Bool) (w : World) (h : impl_canPair.f a0 a1 = some r) :
  Calls Tryd.prog 43 #[.string a0, .int .i64 a1] w fun e w' => e = .returned (.bool r) ∧ Below w.heap.size w w' := by
 have HB := aM (Below.refl w.heap.size w)
 have H := h; clear h; unfold impl_canPair.f at H
 replace H := iO H; obtain ⟨c3, H⟩ | ⟨c3, H⟩ := H
 ·have c3b0 : (a1 == (-1)) = true := beq_iff_eq.mpr c3
  have c3b1 : (a1 != (-1)) = false := bne_eq_false_iff_eq.mpr c3
  clear c3
  replace H := iC H; obtain ⟨c4, H⟩ := H
  have c4b0 := decide_eq_true c4
  have c4b1 : decide (0 < a0.size) = true := decide_eq_true (by omega)
  clear c4
  replace H := iC H; obtain ⟨c6, H⟩ := H
  have c6b0 := decide_eq_true c6
  have c6b1 : decide (1 < a0.size) = true := decide_eq_true (by omega)
  clear c6
  obtain rfl := Option.some.inj H
  have p5 : 0 ≤ (0 : Int) := (by omega)
  have q5 : 0 < a0.size := (by have : (0 : Int) < (a0.size : Int) := oD; omega)
  have hx5 : ∀ h : 0 < a0.size, ((a0[0]'h).toNat : Int) = bt a0 0 := bt_at a0 0
  clear p5
  have qi5 : (0 < (a0.size : Int)) = True := eq_true (oD)
  replace q5 := eq_true q5
  have p7 : 0 ≤ (1 : Int) := (by omega)
  have q7 : 1 < a0.size := (by have : (1 : Int) < (a0.size : Int) := oD; omega)
  have hx7 : ∀ h : 1 < a0.size, ((a0[1]'h).toNat : Int) = bt a0 1 := bt_at a0 1
  clear p7
  have qi7 : (1 < (a0.size : Int)) = True := eq_true (oD)
  replace q7 := eq_true q7
  go_enter Tryd.func43, Tryd.ntmps43
  go_wp2
  repeat (go_quiet (fail); try go_wp2)
  go_ret
  exact ⟨rfl, bQ⟩
 ·have c3b0 : (a1 == (-1)) = false := beq_eq_false_iff_ne.mpr c3
  have c3b1 : (a1 != (-1)) = true := bne_iff_ne.mpr c3
  replace H := jS H; obtain ⟨t185, A8, H⟩ := H
  obtain rfl := Option.some.inj H
  go_enter Tryd.func43, Tryd.ntmps43
  go_wp2_with (first | (go_at_call 60; (with_reducible refine (impl_canMove.calls a0 a1 t185 _ A8.out).mono ?_); rintro e w9 ⟨rfl, hb⟩; replace HB := aM (below_step HB.out hb); (try clear hb)))
  repeat (go_quiet (first | (go_at_call 60; (with_reducible refine (impl_canMove.calls a0 a1 t185 _ A8.out).mono ?_); rintro e w9 ⟨rfl, hb⟩; replace HB := aM (below_step HB.out hb); (try clear hb))); try go_wp2_with (first | (go_at_call 60; (with_reducible refine (impl_canMove.calls a0 a1 t185 _ A8.out).mono ?_); rintro e w9 ⟨rfl, hb⟩; replace HB := aM (below_step HB.out hb); (try clear hb))))
  go_ret
  exact ⟨rfl, HB.out⟩

/-! ### impl_movesOf: function 54 -/
def impl_movesOf.l0 : Nat → ByteArray → List Int → Int → Int → Option (List Int)
 | 0, _, _, _, _ => none
 | k + 1, x0, x3, x6, x7 => if x7 < x6 then ((impl_canMove.f x0 x7).bind fun t186 => (if t186 = true then (if x3.length < 17592186044416 then (impl_movesOf.l0 k x0 (x3 ++ [x7]) x6 (wrap64 (x7 + 1))) else (none)) else (impl_movesOf.l0 k x0 x3 x6 (wrap64 (x7 + 1))))) else (some x3)
def impl_movesOf.f (k : Nat) (a0 : ByteArray) : Option (List Int) := impl_movesOf.l0 k a0 ([] : List Int) (a0.size : Int) 0
theorem impl_movesOf.mono_l : ∀ k, (∀ y0 y1 y2 y3, LeO (impl_movesOf.l0 k y0 y1 y2 y3) (impl_movesOf.l0 (k + 1) y0 y1 y2 y3))
 | 0 => fun _ _ _ _ r h => by simp [impl_movesOf.l0] at h
 | k + 1 => by
  have ih0 := impl_movesOf.mono_l k
  ·intro y0 y1 y2 y3
   unfold impl_movesOf.l0
   with_reducible repeat' first | exact ih0 _ _ _ _ | exact LeO.refl _ | exact LeO.none _ | refine LeO.ite ?_ ?_ | refine LeO.bind ?_ (fun _ => ?_)
theorem impl_movesOf.mono : ∀ a0 k, LeO (impl_movesOf.f k a0) (impl_movesOf.f (k + 1) a0) := by
 intro a0 k
 have ih0 := impl_movesOf.mono_l k
 unfold impl_movesOf.f
 with_reducible repeat' first | exact ih0 _ _ _ _ | exact LeO.refl _ | exact LeO.none _ | refine LeO.ite ?_ ?_ | refine LeO.bind ?_ (fun _ => ?_)
set_option maxHeartbeats 8000000 in
set_option maxRecDepth 100000 in
theorem impl_movesOf.calls (k : Nat) (a0 : ByteArray) (r : List Int) (w : World) (h : impl_movesOf.f k a0 = some r) :
  Calls Tryd.prog 54 #[.string a0] w fun e w' => ∃ v0_ : Value, e = .returned (v0_) ∧ Kd.R (Kd.int .i64) 3 w' w.heap.size (fun _ => True) v0_ r ∧ Below w.heap.size w w' := by
 have HB := aM (Below.refl w.heap.size w)
 have H := h; clear h; unfold impl_movesOf.f at H
 have H' := aM H
 clear H
 go_enter Tryd.func54, Tryd.ntmps54
 go_wp2
 go_loopg [3, 7] k (fun kq v3 v7 w' => ∃ (x3_1 : List Int) (x7_1 : Int), v7 = .int .i64 x7_1 ∧ Aside0 (impl_movesOf.l0 kq a0 x3_1 (a0.size : Int) x7_1 = some r) ∧ Aside0 (kq ≤ k) ∧ Aside0 (Kd.R (Kd.int .i64) 3 w' w.heap.size (fun _ => True) v3 x3_1) ∧ Aside0 (Below w.heap.size w w'))
 case atStart => exact ⟨(([] : List Int)), (0), rfl, H', ⟨Nat.le_refl _⟩, ⟨by first | exact Kd.R_nil _ _ _ _ _ | exact Kd.N_nil _ _ _ _ _ | exact Kd.V_nil _ _ _ _ _ | exact Kd.Q_nil _ _ _ _ _ | exact Kd.S_nil _ _ _ _ _⟩, HB⟩
 case round =>
  clear H'
  obtain ⟨x3_1, x7_1, rfl, HA, HK1, HO_3, HB⟩ := hrel
  cases gk with
  | zero => exact absurd HA.out (by simp [impl_movesOf.l0])
  | succ k1 =>
   have H := HA.out
   clear HA
   simp only [impl_movesOf.l0] at H
   replace H := iE H; obtain ⟨c2b0, H⟩ | ⟨c2b0, H⟩ := H
   ·replace H := jS H; obtain ⟨t186, A3, H⟩ := H
    by_cases c4 : t186 = true
    ·subst c4
     replace H := jT H
     replace H := iC H; obtain ⟨c5, H⟩ := H
     have LMc5 := aM c5
     clear c5
     obtain ⟨y187, Ny187, h_⟩ := yG (α := List Int) (x3_1 ++ [x7_1]); rw [← h_] at H; clear h_
     have H' := aM H
     clear H
     go_wp2_with (first | ((with_reducible refine gC 60 rfl ?_); refine gL (some 12) Tryd.func60 #[.string a0, .int .i64 x7_1] ?_; (with_reducible refine (impl_canMove.calls a0 x7_1 true _ A3.out).mono ?_); rintro e w6 ⟨rfl, hb⟩; refine ⟨_, rfl, ?_⟩; replace HO_3 := aM (Kd.R_below HO_3.out hb); replace HB := aM (below_step HB.out hb); (try clear hb)) | ((with_reducible refine gate_builtin (b := .append) (xs := #[.tmp 13, .tmp 15]) rfl ?_); at_builtin; refine Kd.R_append (Kd.int .i64) (w0 := w) w.heap.size rfl (.tmp 13) (.tmp 15) 26 3 (.int .i64 0) 8 rfl Tryd.underlying26 info3 rfl (by decide) (by omega) u3 x3_1 x7_1 [.int .i64 x7_1] (fun _ => True) (fun _ => False) rfl rfl ?aP (fun _ hk => hk.elim) ?aF ?aO ?aB ?aS ?aL ?_; (case aP => exact rfl); (case aB => exact HB.out); (case aF => exact (fun _ _ => trivial)); (case aO => exact HO_3.out); (case aS => exact (below_size HB.out)); (case aL => have := LMc5.out; omega); intro v188 w7 ho hb hg hat; rw [← Ny187.out] at ho; replace HB := aM (hb); have HO189 := aM (ho); clear ho hb hg hat))
     go_roundg k1
     case measure => have := HK1.out; omega
     case rel => exact ⟨(y187), (wrap64 (x7_1 + 1)), rfl, H', ⟨by have := HK1.out; omega⟩, HO189, HB⟩
    ·replace c4 := Bool.eq_false_iff.mpr c4
     subst c4
     replace H := jF H
     have H' := aM H
     clear H
     go_wp2_with (first | ((with_reducible refine gC 60 rfl ?_); refine gL (some 12) Tryd.func60 #[.string a0, .int .i64 x7_1] ?_; (with_reducible refine (impl_canMove.calls a0 x7_1 false _ A3.out).mono ?_); rintro e w8 ⟨rfl, hb⟩; refine ⟨_, rfl, ?_⟩; replace HO_3 := aM (Kd.R_below HO_3.out hb); replace HB := aM (below_step HB.out hb); (try clear hb)))
     go_roundg k1
     case measure => have := HK1.out; omega
     case rel => exact ⟨(x3_1), (wrap64 (x7_1 + 1)), rfl, H', ⟨by have := HK1.out; omega⟩, HO_3, HB⟩
   ·obtain rfl := Option.some.inj H
    go_wp2
    go_ret
    exact ⟨_, rfl, HO_3.out, HB.out⟩

/-! ### impl_pairMoves: function 34 -/
def impl_pairMoves.f (k : Nat) (a0 : ByteArray) : Option (List Int) := (impl_canPair.f a0 (-1)).bind fun t190 => (if t190 = true then (if ([] : List Int).length < 17592186044416 then ((some (([] : List Int) ++ [(-1)] : List Int)).bind fun y191 => ((impl_movesOf.f k a0).bind fun t194 => (if y191.length + t194.length < 17592186044416 then (some (y191 ++ t194)) else (none)))) else (none)) else ((impl_movesOf.f k a0).bind fun t200 => (if ([] : List Int).length + t200.length < 17592186044416 then (some (([] : List Int) ++ t200)) else (none))))
theorem impl_pairMoves.mono : ∀ a0 k, LeO (impl_pairMoves.f k a0) (impl_pairMoves.f (k + 1) a0) := by
 intro a0 k
 unfold impl_pairMoves.f
 with_reducible repeat' first | exact impl_movesOf.mono _ _ | exact LeO.refl _ | exact LeO.none _ | refine LeO.ite ?_ ?_ | refine LeO.bind ?_ (fun _ => ?_)
set_option maxHeartbeats 8000000 in
set_option maxRecDepth 100000 in
theorem impl_pairMoves.calls (k : Nat) (a0 : ByteArray) (r : List Int) (w : World) (h : impl_pairMoves.f k a0 = some r) :
  Calls Tryd.prog 34 #[.string a0] w fun e w' => ∃ v0_ : Value, e = .returned (v0_) ∧ Kd.R (Kd.int .i64) 3 w' w.heap.size (fun _ => True) v0_ r ∧ Below w.heap.size w w' := by
 have HB := aM (Below.refl w.heap.size w)
 have H := h; clear h; unfold impl_pairMoves.f at H
 replace H := jS H; obtain ⟨t190, A2, H⟩ := H
 by_cases c3 : t190 = true
 ·subst c3
  replace H := jT H
  replace H := iC H; obtain ⟨c4, H⟩ := H
  have LMc4 := aM c4
  clear c4
  replace H := jY H; obtain ⟨y191, Ny191, H⟩ := H
  replace H := jS H; obtain ⟨t194, A5, H⟩ := H
  replace H := iC H; obtain ⟨c6, H⟩ := H
  have LMc6 := aM c6
  clear c6
  obtain ⟨y197, Ny197, h_⟩ := yG (α := List Int) (y191 ++ t194); rw [← h_] at H; clear h_
  obtain rfl := Option.some.inj H
  go_enter Tryd.func34, Tryd.ntmps34
  go_wp2_with (first | ((with_reducible refine gC 43 rfl ?_); refine gL (some 5) Tryd.func43 #[.string a0, .int .i64 (-1)] ?_; (with_reducible refine (impl_canPair.calls a0 (-1) true _ A2.out).mono ?_); rintro e w7 ⟨rfl, hb⟩; refine ⟨_, rfl, ?_⟩; replace HB := aM (below_step HB.out hb); (try clear hb)) | ((with_reducible refine gate_builtin (b := .append) (xs := #[.tmp 6, .tmp 7]) rfl ?_); at_builtin; refine Kd.R_append (Kd.int .i64) (w0 := w) w.heap.size rfl (.tmp 6) (.tmp 7) 26 3 (.int .i64 0) 8 rfl Tryd.underlying26 info3 rfl (by decide) (by omega) (.slice none 0 0) ([] : List Int) (-1) [.int .i64 (-1)] (fun _ => True) (fun _ => False) rfl rfl ?aP (fun _ hk => hk.elim) ?aF ?aO ?aB ?aS ?aL ?_; (case aP => exact rfl); (case aB => exact HB.out); (case aF => exact (fun _ _ => trivial)); (case aO => exact ((Kd.R_nil _ _ _ _ (fun _ => True)))); (case aS => exact (below_size HB.out)); (case aL => have := LMc4.out; omega); intro v192 w8 ho hb hg hat; rw [← Ny191.out] at ho; replace HB := aM (hb); have HO193 := aM (ho); clear ho hb hg hat) | ((with_reducible refine gC 54 rfl ?_); refine gL (some 11) Tryd.func54 #[.string a0] ?_; (with_reducible refine (impl_movesOf.calls k a0 t194 _ A5.out).mono ?_); rintro e w9 ⟨v195, rfl, ho0, hb⟩; refine ⟨_, rfl, ?_⟩; have HO196 := aM (Kd.R_lower (Kd.R_new' ho0 (Kd.R_lt HO193.out)) (below_size HB.out)); replace HO193 := aM (Kd.R_elder' HO193.out (Kd.R_base ho0) hb); replace HB := aM (below_step HB.out hb); (try clear hb); (try clear ho0); obtain ⟨Ao11, co11, eo11⟩ := Kd.R_slice HO196.out; subst eo11) | ((with_reducible refine gate_builtin (b := .append) (xs := #[.tmp 9, .tmp 11]) rfl ?_); at_builtin; refine Kd.R_append_rows (Kd.int .i64) (w0 := w) w.heap.size rfl (.tmp 9) (.tmp 11) 26 3 (.int .i64 0) 8 rfl Tryd.underlying26 info3 rfl (by decide) (by omega) v192 y191 t194 _ _ _ (fun k_ => some k_ ≠ (.slice Ao11 t194.length co11 : Value).ownBlock) (fun _ => False) rfl rfl ?aO ?aR (fun _ _ h => h) (fun _ h => h.elim) ?aF ?aB ?aS ?aL ?_; (case aR => repeat (first | exact (Kd.R_reads' HO196.out).2.2 | (with_reducible refine cA ?_ _) | (with_reducible refine cN ?_ _) | (with_reducible refine cD ?_))); (case aB => exact HB.out); (case aF => exact (fun k_ hk => Kd.fresh' (Kd.R_lt HO196.out) k_ hk)); (case aO => exact (Kd.R_mono HO193.out (fun _ hk => hk.2))); (case aS => exact (below_size HB.out)); (case aL => have := LMc6.out; omega); intro v198 w10 ho hb hg hat; rw [← Ny197.out] at ho; replace HO196 := aM (Kd.R_after (ok := (fun _ => True)) HO196.out hg hat); replace HB := aM (hb); have HO199 := aM (ho); clear ho hb hg hat))
  go_ret
  exact ⟨_, rfl, by (with_reducible repeat (first | apply rA | apply rN | apply rD)); exact Kd.R_mono HO199.out (fun _ hk => trivial), HB.out⟩
 ·replace c3 := Bool.eq_false_iff.mpr c3
  subst c3
  replace H := jF H
  replace H := jS H; obtain ⟨t200, A12, H⟩ := H
  replace H := iC H; obtain ⟨c13, H⟩ := H
  have LMc13 := aM c13
  clear c13
  obtain ⟨y203, Ny203, h_⟩ := yG (α := List Int) (([] : List Int) ++ t200); rw [← h_] at H; clear h_
  obtain rfl := Option.some.inj H
  go_enter Tryd.func34, Tryd.ntmps34
  go_wp2_with (first | ((with_reducible refine gC 43 rfl ?_); refine gL (some 5) Tryd.func43 #[.string a0, .int .i64 (-1)] ?_; (with_reducible refine (impl_canPair.calls a0 (-1) false _ A2.out).mono ?_); rintro e w14 ⟨rfl, hb⟩; refine ⟨_, rfl, ?_⟩; replace HB := aM (below_step HB.out hb); (try clear hb)) | ((with_reducible refine gC 54 rfl ?_); refine gL (some 11) Tryd.func54 #[.string a0] ?_; (with_reducible refine (impl_movesOf.calls k a0 t200 _ A12.out).mono ?_); rintro e w15 ⟨v201, rfl, ho0, hb⟩; refine ⟨_, rfl, ?_⟩; have HO202 := aM (Kd.R_lower ho0 (below_size HB.out)); replace HB := aM (below_step HB.out hb); (try clear hb); (try clear ho0); obtain ⟨Ao17, co17, eo17⟩ := Kd.R_slice HO202.out; subst eo17) | ((with_reducible refine gate_builtin (b := .append) (xs := #[.tmp 9, .tmp 11]) rfl ?_); at_builtin; refine Kd.R_append_rows (Kd.int .i64) (w0 := w) w.heap.size rfl (.tmp 9) (.tmp 11) 26 3 (.int .i64 0) 8 rfl Tryd.underlying26 info3 rfl (by decide) (by omega) (.slice none 0 0) ([] : List Int) t200 _ _ _ (fun k_ => some k_ ≠ (.slice Ao17 t200.length co17 : Value).ownBlock) (fun _ => False) rfl rfl ?aO ?aR (fun _ _ h => h) (fun _ h => h.elim) ?aF ?aB ?aS ?aL ?_; (case aR => repeat (first | exact (Kd.R_reads' HO202.out).2.2 | (with_reducible refine cA ?_ _) | (with_reducible refine cN ?_ _) | (with_reducible refine cD ?_))); (case aB => exact HB.out); (case aF => exact (fun k_ hk => Kd.fresh' (Kd.R_lt HO202.out) k_ hk)); (case aO => exact ((Kd.R_nil _ _ _ _ (fun k_ => some k_ ≠ (.slice Ao17 t200.length co17 : Value).ownBlock)))); (case aS => exact (below_size HB.out)); (case aL => have := LMc13.out; omega); intro v204 w16 ho hb hg hat; rw [← Ny203.out] at ho; replace HO202 := aM (Kd.R_after (Kd.R_apart_nil HO202.out) hg hat); replace HB := aM (hb); have HO205 := aM (ho); clear ho hb hg hat))
  go_ret
  exact ⟨_, rfl, by (with_reducible repeat (first | apply rA | apply rN | apply rD)); exact Kd.R_mono HO205.out (fun _ hk => trivial), HB.out⟩
/-! ### impl_turned: function 57 (told by hand) -/
/-- impl.turned: a copy of a text's bytes, one of them set. -/
def impl_turned.f (a0 : ByteArray) (a1 : Int) : Option ByteArray :=
 if 0 ≤ a1 ∧ a1 < (a0.size : Int) ∧ a0.size ≤ 4611686018427387904 ∧ (a0.data.toList.getD a1.toNat 0).toNat ≤ 97 then some ⟨(a0.data.toList.set a1.toNat (UInt8.ofNat (97 - (a0.data.toList.getD a1.toNat 0).toNat))).toArray⟩ else none
set_option maxHeartbeats 8000000 in
set_option maxRecDepth 100000 in
theorem impl_turned.calls (a0 : ByteArray) (a1 : Int) (r : ByteArray) (w : World) (h : impl_turned.f a0 a1 = some r) :
  Calls Tryd.prog 57 #[.string a0, .int .i64 a1] w fun e w' => e = .returned (.string r) ∧ Below w.heap.size w w' := by
 unfold impl_turned.f at h
 by_cases c0 : ¬ (0 ≤ a1 ∧ a1 < (a0.size : Int) ∧ a0.size ≤ 4611686018427387904 ∧ (a0.data.toList.getD a1.toNat 0).toNat ≤ 97)
 ·rw [if_neg c0] at h; exact absurd h (by simp)
 replace c0 := Decidable.not_not.mp c0
 rw [if_pos c0] at h
 obtain rfl := Option.some.inj h
 clear h
 obtain ⟨c1, c2, c3, c4⟩ := c0
 obtain ⟨i, rfl⟩ : ∃ i : Nat, a1 = (i : Int) := ⟨a1.toNat, by omega⟩
 have hi : i < a0.size := by omega
 have e1 : (i : Int).toNat = i := rfl
 rw [e1] at c4 ⊢
 obtain ⟨b, hb⟩ : ∃ b : UInt8, b = a0.data.toList.getD i 0 := ⟨_, rfl⟩
 rw [← hb] at c4 ⊢
 have hconv := Lib.run_convert_string_bytes (P := Tryd.prog) w 9 22 5 a0 Tryd.underlying9 Tryd.underlying22 Tryd.underlying5
 have hat := Lib.bytesWorld_at_new w 5 a0
 have hcells : ∀ j, j < a0.size → (Lib.bytesWorld w 5 a0).cell? ⟨w.heap.size, j, none⟩ = some (.int .u8 (a0.data.toList.getD j 0).toNat) := fun j hj => Lib.bytesWorld_cell w 5 a0 j hj
 have hbel : Below w.heap.size w (Lib.bytesWorld w 5 a0) := bytes_below (Below.refl _ _) (Nat.le_refl _) 5 a0
 have hfz : (Lib.bytesWorld w 5 a0).frozen? ⟨w.heap.size, i, none⟩ = false := by
  have hs : a0.size ≤ (Lib.bytesCells w 5 a0).size := by simp [Lib.bytesCells, Array.size_append]
  simp [World.frozen?, hat]
  omega
 have hci := hcells i hi
 rw [← hb] at hci
 obtain ⟨v, hv⟩ : ∃ v : UInt8, v = UInt8.ofNat (97 - b.toNat) := ⟨_, rfl⟩
 rw [← hv]
 have hvn : (v.toNat : Int) = 97 - (b.toNat : Int) := by
  rw [hv]
  simp
  omega
 have hvw : IntKind.u8.wrap (97 - (b.toNat : Int)) = (v.toNat : Int) := by
  rw [← hvn]
  have := v.toNat_lt
  simp [IntKind.wrap, IntKind.bits, IntKind.signed]
  omega
 have hvm : (97 - (b.toNat : Int)) % 256 = (v.toNat : Int) := by
  rw [← hvn]
  have := v.toNat_lt
  omega
 generalize hW1 : Lib.bytesWorld w 5 a0 = W1 at hconv hat hcells hbel hfz hci
 generalize grownCap w a0.size 0 5 = cap at hconv
 clear hat hW1
 have hback : (convert 22 9 (.slice (some ⟨w.heap.size, 0, none⟩) a0.size cap)).run Tryd.prog (W1.setCell ⟨w.heap.size, i, none⟩ (.int .u8 (v.toNat : Int))) = .ok (.string ⟨(a0.data.toList.set i v).toArray⟩) (W1.setCell ⟨w.heap.size, i, none⟩ (.int .u8 (v.toNat : Int))) := by
  have hl : (a0.data.toList.set i v).length = a0.size := by rw [List.length_set, Array.length_toList]; rfl
  have h := run_convert_bytes_back (P := Tryd.prog) (W1.setCell ⟨w.heap.size, i, none⟩ (.int .u8 (v.toNat : Int))) 22 9 5 ⟨w.heap.size, 0, none⟩ cap (a0.data.toList.set i v) Tryd.underlying22 Tryd.underlying5 Tryd.underlying9 (fun j hj => by
   rw [hl] at hj
   rw [add_plain, List.getElem_set]
   by_cases e : i = j
   ·subst e
    rw [World.cell?_setCell_same _ _ _ (hcells i hi), if_pos rfl]
   ·rw [World.cell?_setCell_other _ _ _ _ (by intro h; injection h with _ h2 _; exact e h2), hcells j hj, if_neg e]
    have hl2 : j < a0.data.toList.length := by rw [Array.length_toList]; exact hj
    simp [List.getD, List.getElem?_eq_getElem hl2])
  rw [hl] at h
  exact h
 have hbe2 : Below w.heap.size w (W1.setCell ⟨w.heap.size, i, none⟩ (.int .u8 (v.toNat : Int))) := hbel.setCell (Nat.le_refl _) _
 have c1b := decide_eq_true c1
 have c2b := decide_eq_true c2
 have HB2 := aM hbe2
 clear hcells hbel hbe2 hb hv hvn e1 c3 c4 c1 c2
 go_enter Tryd.func57, Tryd.ntmps57
 go_wp2
 go_ret
 exact ⟨rfl, HB2.out⟩

/-! ### impl_paired: function 35 -/
def impl_paired.f (a0 : ByteArray) (a1 : Int) : Option (ByteArray) := if a1 = (-1) then ((impl_turned.f a0 0).bind fun t206 => ((impl_turned.f t206 1).bind fun t207 => (some t207))) else ((impl_turned.f a0 a1).bind fun t208 => (some t208))
set_option maxHeartbeats 8000000 in
set_option maxRecDepth 100000 in
theorem impl_paired.calls (a0 : ByteArray) (a1 : Int) (r : ByteArray) (w : World) (h : impl_paired.f a0 a1 = some r) :
  Calls Tryd.prog 35 #[.string a0, .int .i64 a1] w fun e w' => e = .returned (.string r) ∧ Below w.heap.size w w' := by
 have HB := aM (Below.refl w.heap.size w)
 have H := h; clear h; unfold impl_paired.f at H
 replace H := iO H; obtain ⟨c3, H⟩ | ⟨c3, H⟩ := H
 ·have c3b0 : (a1 == (-1)) = true := beq_iff_eq.mpr c3
  have c3b1 : (a1 != (-1)) = false := bne_eq_false_iff_eq.mpr c3
  clear c3
  replace H := jS H; obtain ⟨t206, A4, H⟩ := H
  replace H := jS H; obtain ⟨t207, A5, H⟩ := H
  obtain rfl := Option.some.inj H
  go_enter Tryd.func35, Tryd.ntmps35
  go_wp2_with (first | ((with_reducible refine gC 57 rfl ?_); refine gL (some 8) Tryd.func57 #[.string a0, .int .i64 0] ?_; (with_reducible refine (impl_turned.calls a0 0 t206 _ A4.out).mono ?_); rintro e w6 ⟨rfl, hb⟩; refine ⟨_, rfl, ?_⟩; replace HB := aM (below_step HB.out hb); (try clear hb)) | ((with_reducible refine gC 57 rfl ?_); refine gL (some 9) Tryd.func57 #[.string t206, .int .i64 1] ?_; (with_reducible refine (impl_turned.calls t206 1 t207 _ A5.out).mono ?_); rintro e w7 ⟨rfl, hb⟩; refine ⟨_, rfl, ?_⟩; replace HB := aM (below_step HB.out hb); (try clear hb)))
  go_ret
  exact ⟨rfl, HB.out⟩
 ·have c3b0 : (a1 == (-1)) = false := beq_eq_false_iff_ne.mpr c3
  have c3b1 : (a1 != (-1)) = true := bne_iff_ne.mpr c3
  replace H := jS H; obtain ⟨t208, A8, H⟩ := H
  obtain rfl := Option.some.inj H
  go_enter Tryd.func35, Tryd.ntmps35
  go_wp2_with (first | ((with_reducible refine gC 57 rfl ?_); refine gL (some 12) Tryd.func57 #[.string a0, .int .i64 a1] ?_; (with_reducible refine (impl_turned.calls a0 a1 t208 _ A8.out).mono ?_); rintro e w9 ⟨rfl, hb⟩; refine ⟨_, rfl, ?_⟩; replace HB := aM (below_step HB.out hb); (try clear hb)))
  go_ret
  exact ⟨rfl, HB.out⟩

end Go.Proofs.YtppbohghongfmaaDoor.PN
