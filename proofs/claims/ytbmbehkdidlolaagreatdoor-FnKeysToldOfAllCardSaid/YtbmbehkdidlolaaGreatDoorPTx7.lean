-- written by a program of this session's (wip/tools), over the kit's print
import Derived.Test.YtbmbehkdidlolaaGreatDoorPTx0
import Derived.Test.YtbmbehkdidlolaaGreatDoorPTx4
import Derived.Test.YtbmbehkdidlolaaGreatDoorPTx6
-- squeezed
-- squeezed twice
namespace Go.Proofs.YtbmbehkdidlolaaGreatDoor.PT
open Go.RowKit Go.Proofs.YtbmbehkdidlolaaGreatDoorW.PrintWords Go.Proofs.YtbmbehkdidlolaaGreatDoorW.PrintLast Go.Proofs.YtbmbehkdidlolaaGreatDoorW.PrintMore
attribute [local go_sem] max2_int min2_int max_two min_two max_three min_three max_four min_four   -- for this text's walks alone
set_option linter.unusedVariables false
set_option linter.unusedSimpArgs false

/-! ### spec_riState: function 37 -/
def spec_riState.l0 : Nat → Int → Int → ByteArray → Int → Option (ByteArray)
 | 0, _, _, _, _ => none
 | k + 1, x0, x1, x5, x6 => if x6 < x0 then (if 0 ≤ x6 then (if 0 ≤ (wrap64 (x6 + 1)) then (if (Go.bits .and .i64 (shr .i64 x1 x6) 1) = (Go.bits .and .i64 (shr .i64 x1 (wrap64 (x6 + 1))) 1) then (if x5.size + 1 ≤ 9223372036854775807 then (spec_riState.l0 k x0 x1 (x5 ++ (⟨#[48]⟩ : ByteArray)) (wrap64 (x6 + 1))) else (none)) else (if x5.size + 1 ≤ 9223372036854775807 then (spec_riState.l0 k x0 x1 (x5 ++ (⟨#[49]⟩ : ByteArray)) (wrap64 (x6 + 1))) else (none))) else (none)) else (none)) else (some x5)
def spec_riState.f (k : Nat) (a0 : Int) (a1 : Int) : Option (ByteArray) := spec_riState.l0 k a0 a1 (⟨#[]⟩ : ByteArray) 0
theorem spec_riState.mono_l : ∀ k, (∀ y0 y1 y2 y3, LeO (spec_riState.l0 k y0 y1 y2 y3) (spec_riState.l0 (k + 1) y0 y1 y2 y3))
 | 0 => fun _ _ _ _ r h => by simp [spec_riState.l0] at h
 | k + 1 => by
  have ih0 := spec_riState.mono_l k
  ·intro y0 y1 y2 y3
   unfold spec_riState.l0
   with_reducible repeat' first | exact ih0 _ _ _ _ | exact LeO.refl _ | exact LeO.none _ | refine LeO.ite ?_ ?_ | refine LeO.bind ?_ (fun _ => ?_)
theorem spec_riState.mono : ∀ a0 a1 k, LeO (spec_riState.f k a0 a1) (spec_riState.f (k + 1) a0 a1) := by
 intro a0 a1 k
 have ih0 := spec_riState.mono_l k
 unfold spec_riState.f
 with_reducible repeat' first | exact ih0 _ _ _ _ | exact LeO.refl _ | exact LeO.none _ | refine LeO.ite ?_ ?_ | refine LeO.bind ?_ (fun _ => ?_)
set_option maxHeartbeats 8000000 in
set_option maxRecDepth 100000 in
theorem spec_riState.calls (k : Nat) (a0 : Int) (a1 : Int) (r : ByteArray) (w : World) (h : spec_riState.f k a0 a1 = some r) :
  Calls Tryz.prog 37 #[.int .i64 a0, .int .i64 a1] w fun e w' => e = .returned (.string r) ∧ Drawn0 w w' := by
 have H := h; clear h; unfold spec_riState.f at H
 have H' := aM H
 clear H
 go_enter Tryz.func37, Tryz.ntmps37
 go_wp2
 repeat (go_quiet (fail); try go_wp2)
 go_loopg [5, 6] k (fun kq v5 v6 w' => ∃ (x5_1 : ByteArray) (x6_1 : Int), v5 = .string x5_1 ∧ v6 = .int .i64 x6_1 ∧ Aside0 (spec_riState.l0 kq a0 a1 x5_1 x6_1 = some r) ∧ Aside0 (kq ≤ k) ∧ Drawn0 w w')
 case atStart => exact ⟨((⟨#[]⟩ : ByteArray)), (0), rfl, rfl, H', ⟨Nat.le_refl _⟩, by repeat (first | exact Drawn0.refl _ | apply Drawn0.step)⟩
 case round =>
  clear H'
  obtain ⟨x5_1, x6_1, rfl, rfl, HA, HK1, ⟨m1, rfl⟩⟩ := hrel
  cases gk with
  | zero => exact absurd HA.out (by simp [spec_riState.l0])
  | succ k1 =>
   have H := HA.out
   clear HA
   simp only [spec_riState.l0] at H
   replace H := iO H; obtain ⟨c3, H⟩ | ⟨c3, H⟩ := H
   ·have c3b0 := decide_eq_true c3
    clear c3
    replace H := iT H; obtain ⟨c4b0, c4b1, H⟩ := H
    obtain ⟨ji5, hji5⟩ : ∃ j_ : Int, (shr .i64 a1 x6_1) = j_ := ⟨_, rfl⟩
    replace H : (if 0 ≤ (wrap64 (x6_1 + 1)) then (if (Go.bits .and .i64 (ji5) 1) = (Go.bits .and .i64 (shr .i64 a1 (wrap64 (x6_1 + 1))) 1) then (if x5_1.size + 1 ≤ 9223372036854775807 then (spec_riState.l0 k1 a0 a1 (x5_1 ++ (⟨#[48]⟩ : ByteArray)) (wrap64 (x6_1 + 1))) else (none)) else (if x5_1.size + 1 ≤ 9223372036854775807 then (spec_riState.l0 k1 a0 a1 (x5_1 ++ (⟨#[49]⟩ : ByteArray)) (wrap64 (x6_1 + 1))) else (none))) else (none)) = some r := by first | (rw [hji5] at H; exact H) | (simp only [hji5] at H ⊢; exact H)
    have hji5_ : (a1 / 2 ^ min x6_1.toNat 64) = ji5 := hji5
    have hji5z : x6_1 ≤ 64 → (a1 / 2 ^ x6_1.toNat) = ji5 := shr_small hji5
    obtain ⟨ji6, hji6⟩ : ∃ j_ : Int, (wrap64 (x6_1 + 1)) = j_ := ⟨_, rfl⟩
    replace H : (if 0 ≤ (ji6) then (if (Go.bits .and .i64 (ji5) 1) = (Go.bits .and .i64 (shr .i64 a1 (ji6)) 1) then (if x5_1.size + 1 ≤ 9223372036854775807 then (spec_riState.l0 k1 a0 a1 (x5_1 ++ (⟨#[48]⟩ : ByteArray)) ji6) else (none)) else (if x5_1.size + 1 ≤ 9223372036854775807 then (spec_riState.l0 k1 a0 a1 (x5_1 ++ (⟨#[49]⟩ : ByteArray)) ji6) else (none))) else (none)) = some r := by first | (rw [hji6] at H; exact H) | (simp only [hji6] at H ⊢; exact H)
    have hji6w : (IntKind.i64.wrap (x6_1 + 1)) = ji6 := (i64_w _).trans hji6
    replace H := iT H; obtain ⟨c7b0, c7b1, H⟩ := H
    obtain ⟨ji8, hji8⟩ : ∃ j_ : Int, (shr .i64 a1 (ji6)) = j_ := ⟨_, rfl⟩
    replace H : (if (Go.bits .and .i64 (ji5) 1) = (Go.bits .and .i64 (ji8) 1) then (if x5_1.size + 1 ≤ 9223372036854775807 then (spec_riState.l0 k1 a0 a1 (x5_1 ++ (⟨#[48]⟩ : ByteArray)) ji6) else (none)) else (if x5_1.size + 1 ≤ 9223372036854775807 then (spec_riState.l0 k1 a0 a1 (x5_1 ++ (⟨#[49]⟩ : ByteArray)) ji6) else (none))) = some r := by first | (rw [hji8] at H; exact H) | (simp only [hji8] at H ⊢; exact H)
    have hji8_ : (a1 / 2 ^ min (ji6).toNat 64) = ji8 := hji8
    have hji8z : (ji6) ≤ 64 → (a1 / 2 ^ (ji6).toNat) = ji8 := shr_small hji8
    replace H := iO H; obtain ⟨c9, H⟩ | ⟨c9, H⟩ := H
    ·have c9b0 : ((Go.bits .and .i64 (ji5) 1) == (Go.bits .and .i64 (ji8) 1)) = true := beq_iff_eq.mpr c9
     have c9b1 : ((Go.bits .and .i64 (ji5) 1) != (Go.bits .and .i64 (ji8) 1)) = false := bne_eq_false_iff_eq.mpr c9
     clear c9
     replace H := iC H; obtain ⟨c10, H⟩ := H
     have c10b0 := eq_true c10
     have c10b1 := decide_eq_true c10
     try (have c10s := c10; simp at c10s)
     try have c10b2 : (9223372036854775807 < x5_1.size + 1) = False := eq_false (Nat.not_lt.2 c10)
     have H' := aM H
     clear H
     go_wp2
     repeat (go_quiet (fail); try go_wp2)
     go_roundg k1
     case measure => have := HK1.out; omega
     case rel => exact ⟨(x5_1 ++ (⟨#[48]⟩ : ByteArray)), (ji6), rfl, (by first | rfl | (simp; done) | (simp only [← hji6] <;> (first | rfl | simp)) | (simp [*]; done)), H', ⟨by have := HK1.out; omega⟩, by repeat (first | exact Drawn0.refl _ | apply Drawn0.step)⟩
    ·have c9b0 : ((Go.bits .and .i64 (ji5) 1) == (Go.bits .and .i64 (ji8) 1)) = false := beq_eq_false_iff_ne.mpr c9
     have c9b1 : ((Go.bits .and .i64 (ji5) 1) != (Go.bits .and .i64 (ji8) 1)) = true := bne_iff_ne.mpr c9
     replace H := iC H; obtain ⟨c11, H⟩ := H
     have c11b0 := eq_true c11
     have c11b1 := decide_eq_true c11
     try (have c11s := c11; simp at c11s)
     try have c11b2 : (9223372036854775807 < x5_1.size + 1) = False := eq_false (Nat.not_lt.2 c11)
     have H' := aM H
     clear H
     go_wp2
     repeat (go_quiet (fail); try go_wp2)
     go_roundg k1
     case measure => have := HK1.out; omega
     case rel => exact ⟨(x5_1 ++ (⟨#[49]⟩ : ByteArray)), (ji6), rfl, (by first | rfl | (simp; done) | (simp only [← hji6] <;> (first | rfl | simp)) | (simp [*]; done)), H', ⟨by have := HK1.out; omega⟩, by repeat (first | exact Drawn0.refl _ | apply Drawn0.step)⟩
   ·have c3b0 := decide_eq_false c3
    clear c3
    obtain rfl := Option.some.inj H
    go_wp2
    repeat (go_quiet (fail); try go_wp2)
    go_ret
    exact ⟨rfl, by repeat (first | exact Drawn0.refl _ | apply Drawn0.step)⟩

/-! ### spec_l1Most: function 38 -/
def spec_l1Most.f (a0 : Int) (a1 : Int) : Option (Int) := if a0 > a1 then (some a0) else (some a1)
set_option maxHeartbeats 8000000 in
set_option maxRecDepth 100000 in
theorem spec_l1Most.calls (a0 : Int) (a1 : Int) (r : Int) (w : World) (h : spec_l1Most.f a0 a1 = some r) :
  Calls Tryz.prog 38 #[.int .i64 a0, .int .i64 a1] w fun e w' => e = .returned (.int .i64 r) ∧ Drawn0 w w' := by
 have H := h; clear h; unfold spec_l1Most.f at H
 replace H := iE H; obtain ⟨c3b0, H⟩ | ⟨c3b0, H⟩ := H
 ·obtain rfl := Option.some.inj H
  go_enter Tryz.func38, Tryz.ntmps38
  go_wp2
  go_ret
  exact ⟨rfl, by repeat (first | exact Drawn0.refl _ | apply Drawn0.step)⟩
 ·obtain rfl := Option.some.inj H
  go_enter Tryz.func38, Tryz.ntmps38
  go_wp2
  go_ret
  exact ⟨rfl, by repeat (first | exact Drawn0.refl _ | apply Drawn0.step)⟩

/-! ### spec_LongestByKeys: function 6 -/
mutual
def spec_LongestByKeys.l0 : Nat → List ByteArray → Int → Int → Option (Int × Bool)
 | 0, _, _, _ => none
 | k + 1, x0, x4, x5 => if x5 < (shl .i64 1 (x0.length : Int)) then ((spec_riState.f k (x0.length : Int) x5).bind fun t211 => ((spec_keFar.f k x0 t211).bind fun bt212 => (spec_LongestByKeys.l1 k x0 x4 x5 bt212.1 (bt212.1.length : Int) 0))) else (some (x4, true))
def spec_LongestByKeys.l1 : Nat → List ByteArray → Int → Int → List Int → Int → Int → Option (Int × Bool)
 | 0, _, _, _, _, _, _ => none
 | k + 1, x0, x4, x5, x29, x30, x31 => if x31 < x30 then (if 0 ≤ x31 then (if x31 < (x29.length : Int) then ((spec_l1Most.f x4 (rd x29 x31)).bind fun t219 => (spec_LongestByKeys.l1 k x0 t219 x5 x29 x30 (wrap64 (x31 + 1)))) else (none)) else (none)) else (spec_LongestByKeys.l0 k x0 x4 (wrap64 (x5 + 1)))
end
def spec_LongestByKeys.f (k : Nat) (l0 : List ByteArray) : Option (Int × Bool) := (spec_keGood.f k l0).bind fun t210 => (if t210 = true then (spec_LongestByKeys.l0 k l0 0 0) else (some (0, false)))
theorem spec_LongestByKeys.mono_l : ∀ k, (∀ y0 y1 y2, LeO (spec_LongestByKeys.l0 k y0 y1 y2) (spec_LongestByKeys.l0 (k + 1) y0 y1 y2)) ∧ (∀ y0 y1 y2 y3 y4 y5, LeO (spec_LongestByKeys.l1 k y0 y1 y2 y3 y4 y5) (spec_LongestByKeys.l1 (k + 1) y0 y1 y2 y3 y4 y5))
 | 0 => ⟨fun _ _ _ r h => by simp [spec_LongestByKeys.l0] at h, fun _ _ _ _ _ _ r h => by simp [spec_LongestByKeys.l1] at h⟩
 | k + 1 => by
  obtain ⟨ih0, ih1⟩ := spec_LongestByKeys.mono_l k
  refine ⟨?_, ?_⟩
  ·intro y0 y1 y2
   unfold spec_LongestByKeys.l0
   with_reducible repeat' first | exact ih0 _ _ _ | exact ih1 _ _ _ _ _ _ | exact spec_keFar.mono _ _ _ | exact spec_keGood.mono _ _ | exact spec_riState.mono _ _ _ | exact LeO.refl _ | exact LeO.none _ | refine LeO.ite ?_ ?_ | refine LeO.bind ?_ (fun _ => ?_)
  ·intro y0 y1 y2 y3 y4 y5
   unfold spec_LongestByKeys.l1
   with_reducible repeat' first | exact ih0 _ _ _ | exact ih1 _ _ _ _ _ _ | exact spec_keFar.mono _ _ _ | exact spec_keGood.mono _ _ | exact spec_riState.mono _ _ _ | exact LeO.refl _ | exact LeO.none _ | refine LeO.ite ?_ ?_ | refine LeO.bind ?_ (fun _ => ?_)
theorem spec_LongestByKeys.mono : ∀ a0 k, LeO (spec_LongestByKeys.f k a0) (spec_LongestByKeys.f (k + 1) a0) := by
 intro a0 k
 obtain ⟨ih0, ih1⟩ := spec_LongestByKeys.mono_l k
 unfold spec_LongestByKeys.f
 with_reducible repeat' first | exact ih0 _ _ _ | exact ih1 _ _ _ _ _ _ | exact spec_keFar.mono _ _ _ | exact spec_keGood.mono _ _ | exact spec_riState.mono _ _ _ | exact LeO.refl _ | exact LeO.none _ | refine LeO.ite ?_ ?_ | refine LeO.bind ?_ (fun _ => ?_)
set_option maxHeartbeats 8000000 in
set_option maxRecDepth 100000 in
theorem spec_LongestByKeys.calls (k : Nat) (A0 : Option Addr) (c0 : Nat) (l0 : List ByteArray) (r1 : Int) (r2 : Bool) (w : World) (hr0 : Kd.C Kd.string w A0 l0.length l0) (hc0 : l0.length ≤ c0) (h : spec_LongestByKeys.f k l0 = some (r1, r2)) :
  Calls Tryz.prog 6 #[.slice A0 l0.length c0] w fun e w' => e = .returned (.tuple #[.int .i64 r1, .bool r2]) ∧ Below w.heap.size w w' := by
 have HR0 := aM hr0
 have HC0 := aM hc0
 clear hr0 hc0
 have HB := aM (Below.refl w.heap.size w)
 have H := h; clear h; unfold spec_LongestByKeys.f at H
 replace H := jS H; obtain ⟨t210, A2, H⟩ := H
 by_cases c3 : t210 = true
 ·subst c3
  replace H := jT H
  have H' := aM H
  clear H
  go_enter Tryz.func6, Tryz.ntmps6
  go_wp2_with (first | ((with_reducible refine gC 35 rfl ?_); refine gL (some 11) Tryz.func35 #[.slice A0 l0.length c0] ?_; (with_reducible refine (spec_keGood.calls k _ _ l0 true _ ?side1 ?side2 A2.out).mono ?_); (case side1 => repeat (first | exact HR0.out | (with_reducible refine cA ?_ _) | (with_reducible refine cN ?_ _) | (with_reducible refine cD ?_))); (case side2 => exact HC0.out); rintro e w' ⟨rfl, ⟨nd, rfl⟩⟩; refine ⟨_, rfl, ?_⟩))
  go_loopg [4, 5] k (fun kq v4 v5 w' => ∃ (x4_1 : Int) (x5_1 : Int), v4 = .int .i64 x4_1 ∧ v5 = .int .i64 x5_1 ∧ Aside0 (spec_LongestByKeys.l0 kq l0 x4_1 x5_1 = some (r1, r2)) ∧ Aside0 (kq ≤ k) ∧ Aside0 (Below w.heap.size w w'))
  case atStart => exact ⟨(0), (0), rfl, rfl, H', ⟨Nat.le_refl _⟩, ⟨bQ⟩⟩
  case round =>
   clear H'
   obtain ⟨x4_1, x5_1, rfl, rfl, HA, HK1, HB⟩ := hrel
   cases gk with
   | zero => exact absurd HA.out (by simp [spec_LongestByKeys.l0])
   | succ k1 =>
    have H := HA.out
    clear HA
    simp only [spec_LongestByKeys.l0] at H
    obtain ⟨ji4, hji4⟩ : ∃ j_ : Int, (shl .i64 1 (l0.length : Int)) = j_ := ⟨_, rfl⟩
    replace H : (if x5_1 < (ji4) then ((spec_riState.f k1 (l0.length : Int) x5_1).bind fun t211 => ((spec_keFar.f k1 l0 t211).bind fun bt212 => (spec_LongestByKeys.l1 k1 l0 x4_1 x5_1 bt212.1 (bt212.1.length : Int) 0))) else (some (x4_1, true))) = some (r1, r2) := by first | (rw [hji4] at H; exact H) | (simp only [hji4] at H ⊢; exact H)
    have hji4_ : (IntKind.i64.wrap (1 * 2 ^ min (l0.length : Int).toNat 64)) = ji4 := hji4
    have hji4z : (l0.length : Int) ≤ 64 → (IntKind.i64.wrap (1 * 2 ^ (l0.length : Int).toNat)) = ji4 := shl_small hji4
    have hji4p : (IntKind.i64.wrap (1 * 2 ^ min l0.length 64)) = ji4 := hji4_
    have hji4q : (l0.length : Int) ≤ 64 → (IntKind.i64.wrap (1 * 2 ^ l0.length)) = ji4 := hji4z
    have hji4r : (IntKind.i64.wrap (2 ^ min l0.length 64)) = ji4 := by have h_ := hji4p; rw [Int.one_mul] at h_; exact h_
    have hji4s : (l0.length : Int) ≤ 64 → (IntKind.i64.wrap (2 ^ l0.length)) = ji4 := fun hle_ => by have h_ := hji4q hle_; rw [Int.one_mul] at h_; exact h_
    have hji4u : (IntKind.i64.wrap (2 ^ min (l0.length : Int).toNat 64)) = ji4 := by have h_ := hji4_; rw [Int.one_mul] at h_; exact h_
    have hji4v : (l0.length : Int) ≤ 64 → (IntKind.i64.wrap (2 ^ (l0.length : Int).toNat)) = ji4 := fun hle_ => by have h_ := hji4z hle_; rw [Int.one_mul] at h_; exact h_
    have hji4y : (wrap64 (1 * 2 ^ min (l0.length : Int).toNat 64)) = ji4 := (i64_w _).symm.trans hji4_
    have hji4x : (l0.length : Int) ≤ 64 → (wrap64 (1 * 2 ^ (l0.length : Int).toNat)) = ji4 := fun h_ => (i64_w _).symm.trans (hji4z h_)
    replace H := iO H; obtain ⟨c5, H⟩ | ⟨c5, H⟩ := H
    ·have c5b0 := decide_eq_true c5
     clear c5
     replace H := jS H; obtain ⟨t211, A6, H⟩ := H
     replace H := jS H; obtain ⟨⟨t212, t213⟩, A7, H⟩ := H; dsimp only at H
     have H' := aM H
     clear H
     go_wp2_with (first | ((with_reducible refine gC 37 rfl ?_); refine gL (some 25) Tryz.func37 #[.int .i64 (l0.length : Int), .int .i64 x5_1] ?_; (with_reducible refine (spec_riState.calls k1 (l0.length : Int) x5_1 t211 _ A6.out).mono ?_); rintro e w' ⟨rfl, ⟨nd, rfl⟩⟩; refine ⟨_, rfl, ?_⟩) | ((with_reducible refine gC 36 rfl ?_); refine gL (some 26) Tryz.func36 #[.slice A0 l0.length c0, .string t211] ?_; (with_reducible refine (spec_keFar.calls k1 _ _ l0 t211 t212 t213 _ ?side1 ?side2 A7.out).mono ?_); (case side1 => repeat first | exact Kd.C_below HR0.out bQ | refine cA ?_ _ | refine cN ?_ _ | refine cD ?_); (case side2 => exact HC0.out); rintro e w8 ⟨v214, v216, rfl, ho0, ho1, hb⟩; refine ⟨_, rfl, ?_⟩; have HO215 := aM (Kd.R_lower ho0 (below_size bQ)); have HO217 := aM (Kd.R_lower ho1 (below_size bQ)); replace HB := aM (below_step bQ hb); (try clear hb); (try clear ho0); (try clear ho1); obtain ⟨Ao9, co9, eo9⟩ := Kd.R_slice HO215.out; subst eo9))
     go_loopg [4, 31] k1 (fun kq v4 v31 w' => ∃ (x4_2 : Int) (x31_2 : Int), v4 = .int .i64 x4_2 ∧ v31 = .int .i64 x31_2 ∧ Aside0 (spec_LongestByKeys.l1 kq l0 x4_2 x5_1 t212 (t212.length : Int) x31_2 = some (r1, r2)) ∧ Aside0 (kq ≤ k1) ∧ Aside0 (Kd.R (Kd.int .i64) 3 w' w.heap.size (fun _ => True) (.slice Ao9 t212.length co9) t212) ∧ Aside0 (Below w.heap.size w w'))
     case atStart => exact ⟨(x4_1), (0), rfl, rfl, H', ⟨Nat.le_refl _⟩, ⟨Kd.R_mono HO215.out (fun _ hk => trivial)⟩, HB⟩
     case round =>
      clear H'
      clear c5b0
      obtain ⟨x4_2, x31_2, rfl, rfl, HA, HK2, HO_29, HB⟩ := hrel
      cases gk with
      | zero => exact absurd HA.out (by simp [spec_LongestByKeys.l1])
      | succ k2 =>
       have H := HA.out
       clear HA
       simp only [spec_LongestByKeys.l1] at H
       replace H := iO H; obtain ⟨c10, H⟩ | ⟨c10, H⟩ := H
       ·have c10b0 := decide_eq_true c10
        clear c10
        replace H := iC H; obtain ⟨c11, H⟩ := H
        have c11b0 := decide_eq_true c11
        clear c11
        replace H := iN H; obtain ⟨c12b0, H⟩ := H
        replace H := jS H; obtain ⟨t219, A13, H⟩ := H
        have H' := aM H
        clear H; obtain ⟨ad218, e218, hx218_0, p218, q218⟩ := aZ (Kd.at_int (Kd.R_reads' HO_29.out).2.2 x31_2); cases e218
        go_wp2_with (first | ((with_reducible refine gC 38 rfl ?_); refine gL (some 37) Tryz.func38 #[.int .i64 x4_2, .int .i64 (rd t212 x31_2)] ?_; (with_reducible refine (spec_l1Most.calls x4_2 (rd t212 x31_2) t219 _ A13.out).mono ?_); rintro e w' ⟨rfl, ⟨nd, rfl⟩⟩; refine ⟨_, rfl, ?_⟩))
        go_roundg k2
        case measure => have := HK1.out; have := HK2.out; omega
        case rel => exact ⟨(t219), (wrap64 (x31_2 + 1)), rfl, rfl, H', ⟨by have := HK1.out; have := HK2.out; omega⟩, ⟨rQ HO_29.out⟩, ⟨bQ⟩⟩
       ·have c10b0 := decide_eq_false c10
        clear c10
        have H' := aM H
        clear H
        go_wp2
        go_roundg k2
        case measure => have := HK1.out; have := HK2.out; omega
        case rel => exact ⟨(x4_2), (wrap64 (x5_1 + 1)), rfl, rfl, H', ⟨by have := HK1.out; have := HK2.out; omega⟩, HB⟩
    ·have c5b0 := decide_eq_false c5
     clear c5
     simp only [Option.some.injEq, Prod.mk.injEq] at H
     obtain ⟨rfl, rfl⟩ := H
     go_wp2
     go_ret2
     exact ⟨by first | rfl | (simp [errW_none, errW_some] <;> rfl) | (simp only [← hji4]; first | rfl | (simp [errW_none, errW_some] <;> rfl)) | (simp [*, errW_none, errW_some] <;> rfl), HB.out⟩
 ·replace c3 := Bool.eq_false_iff.mpr c3
  subst c3
  replace H := jF H
  simp only [Option.some.injEq, Prod.mk.injEq] at H
  obtain ⟨rfl, rfl⟩ := H
  go_enter Tryz.func6, Tryz.ntmps6
  go_wp2_with (first | ((with_reducible refine gC 35 rfl ?_); refine gL (some 11) Tryz.func35 #[.slice A0 l0.length c0] ?_; (with_reducible refine (spec_keGood.calls k _ _ l0 false _ ?side1 ?side2 A2.out).mono ?_); (case side1 => repeat (first | exact HR0.out | (with_reducible refine cA ?_ _) | (with_reducible refine cN ?_ _) | (with_reducible refine cD ?_))); (case side2 => exact HC0.out); rintro e w' ⟨rfl, ⟨nd, rfl⟩⟩; refine ⟨_, rfl, ?_⟩))
  go_ret2
  exact ⟨rfl, bQ⟩

/-! ### impl_searched: function 73 (told by hand) -/
/-- What a search has found so far: the list, the map of the fewest moves, the map of the ways; all in blocks of the call's own. -/
structure impl_searched.St (w w' : World) (gb b1 b2 : Nat) (ok : Nat → Prop) (v : Value) (x : List ByteArray) (f g : ByteArray → Option Int) (c : Nat) : Prop where
 lst : Kd.R Kd.string 9 w' w.heap.size ok v x
 blk : w'.heap[gb]? = some (.cells #[v, .map (some b1), .map (some b2)] 85 (0, 0))
 far : MapS.M w' b1 c f
 way : MapS.M w' b2 c g
 ge : w.heap.size ≤ gb ∧ w.heap.size ≤ b1 ∧ w.heap.size ≤ b2 ∧ b1 ≠ b2
 bel : Below w.heap.size w w'
theorem impl_searched.St.below {w w' w2 : World} {gb b1 b2 : Nat} {ok : Nat → Prop} {v : Value} {x : List ByteArray} {f g : ByteArray → Option Int} {c : Nat} (h : impl_searched.St w w' gb b1 b2 ok v x f g c) (hb : Below w'.heap.size w' w2) : impl_searched.St w w2 gb b1 b2 ok v x f g c :=
 ⟨Kd.R_below h.lst hb, blk_below h.blk hb, MapS.M_below h.far hb, MapS.M_below h.way hb, h.ge, below_step h.bel hb⟩
theorem impl_searched.St.own {w w' : World} {gb b1 b2 : Nat} {ok : Nat → Prop} {v : Value} {x : List ByteArray} {f g : ByteArray → Option Int} {c n : Nat} {b : Nat} {q : ByteArray → Option Int} (h : impl_searched.St w w' gb b1 b2 ok v x f g c) (hM : MapS.M w' b n q) : some b ≠ v.ownBlock := fun e => by
 obtain ⟨cells, hc⟩ := Kd.R_typed h.lst b e.symm
 exact MapS.M_apart hM hc rfl
theorem impl_searched.St.more {w w' : World} {gb b1 b2 : Nat} {ok : Nat → Prop} {v : Value} {x : List ByteArray} {f g : ByteArray → Option Int} {c : Nat} (h : impl_searched.St w w' gb b1 b2 ok v x f g c) : impl_searched.St w w' gb b1 b2 ok v x f g (c + 1) :=
 ⟨h.lst, h.blk, MapS.M_mono h.far (Nat.le_succ _), MapS.M_mono h.way (Nat.le_succ _), h.ge, h.bel⟩
theorem impl_searched.St.put1 {w w' w2 : World} {gb b1 b2 : Nat} {ok : Nat → Prop} {v : Value} {x : List ByteArray} {f f2 g : ByteArray → Option Int} {c : Nat} (h : impl_searched.St w w' gb b1 b2 ok v x f g c) (hM : MapS.M w2 b1 (c + 1) f2) (hg : w'.grownBy w2 (some b1)) : impl_searched.St w w2 gb b1 b2 ok v x f2 g (c + 1) :=
 ⟨Kd.R_grown2 h.lst rfl hg (fun k hk => by cases hk; exact h.own h.far), blk_grown h.blk hg (fun e => MapS.M_apart h.far h.blk (Option.some.inj e)), hM, MapS.M_mono (MapS.M_grown h.way hg (fun e => h.ge.2.2.2 (Option.some.inj e).symm)) (Nat.le_succ _), h.ge, h.bel.grown hg h.bel.size (fun k hk => by cases hk; exact h.ge.2.1)⟩
theorem impl_searched.St.put2 {w w' w2 : World} {gb b1 b2 : Nat} {ok : Nat → Prop} {v : Value} {x : List ByteArray} {f g g2 : ByteArray → Option Int} {c : Nat} (h : impl_searched.St w w' gb b1 b2 ok v x f g c) (hM : MapS.M w2 b2 (c + 1) g2) (hg : w'.grownBy w2 (some b2)) : impl_searched.St w w2 gb b1 b2 ok v x f g2 (c + 1) :=
 ⟨Kd.R_grown2 h.lst rfl hg (fun k hk => by cases hk; exact h.own h.way), blk_grown h.blk hg (fun e => MapS.M_apart h.way h.blk (Option.some.inj e)), MapS.M_mono (MapS.M_grown h.far hg (fun e => h.ge.2.2.2 (Option.some.inj e))) (Nat.le_succ _), hM, h.ge, h.bel.grown hg h.bel.size (fun k hk => by cases hk; exact h.ge.2.2.1)⟩
theorem impl_searched.grown_set (W : World) (g i : Nat) (u : Value) : W.grownBy (W.setCell ⟨g, i, none⟩ u) (some g) :=
 ⟨rfl, rfl, rfl, by simp [World.setCell], fun k _ hk => Below.heap_setCell _ _ _ _ (fun e => hk (by rw [e]))⟩
/-- The list grown, its row put back into the struct. -/
theorem impl_searched.St.push {w w' w1 : World} {gb b1 b2 : Nat} {ok : Nat → Prop} {v v1 : Value} {x x1 : List ByteArray} {f g : ByteArray → Option Int} {c : Nat} (h : impl_searched.St w w' gb b1 b2 ok v x f g c) (ho : Kd.R Kd.string 9 w1 w.heap.size ok v1 x1) (hb : Below w.heap.size w w1) (hg : w'.grownBy w1 v.ownBlock) :
  impl_searched.St w (w1.setCell ⟨gb, 0, none⟩ v1) gb b1 b2 ok v1 x1 f g c := by
 have hk : w1.heap[gb]? = some (.cells #[v, .map (some b1), .map (some b2)] 85 (0, 0)) := blk_grown h.blk hg (Kd.R_ne h.lst h.blk (by decide))
 have h1 := MapS.M_grown h.far hg (h.own h.far)
 have h2 := MapS.M_grown h.way hg (h.own h.way)
 exact ⟨Kd.R_grown2 ho rfl (impl_searched.grown_set w1 gb 0 v1) (fun k hk2 => by cases hk2; exact Kd.R_ne ho hk (by decide)), blk_put hk 0 v1 rfl, MapS.M_set h1 _ _ (fun e => MapS.M_apart h1 hk e.symm), MapS.M_set h2 _ _ (fun e => MapS.M_apart h2 hk e.symm), h.ge, below_set hb h.ge.1⟩
/-- At most so many ways are held. -/
def impl_searched.cap (a : Int) : Int := if 1000000000000001 < a then 1000000000000001 else a
theorem impl_searched.cap_wf {a : Int} (h : (Lit.int .i64 a).wf = true) : (Lit.int .i64 (impl_searched.cap a)).wf = true := by
 unfold impl_searched.cap
 split
 ·decide
 ·exact h
mutual
def impl_searched.l0 (moves : Nat → ByteArray → Option (List ByteArray)) : Nat → List ByteArray → (ByteArray → Option Int) → (ByteArray → Option Int) → Nat → Int → Option (List ByteArray × (ByteArray → Option Int) × (ByteArray → Option Int))
 | 0, _, _, _, _, _ => none
 | k + 1, x, f, g, c, i => if i < (x.length : Int) then (if 0 ≤ i then ((moves k (rdOf ByteArray.empty x i)).bind fun ts => impl_searched.l1 moves k (rdOf ByteArray.empty x i) ts x f g c i 0) else none) else some (x, f, g)
def impl_searched.l1 (moves : Nat → ByteArray → Option (List ByteArray)) : Nat → ByteArray → List ByteArray → List ByteArray → (ByteArray → Option Int) → (ByteArray → Option Int) → Nat → Int → Int → Option (List ByteArray × (ByteArray → Option Int) × (ByteArray → Option Int))
 | 0, _, _, _, _, _, _, _, _ => none
 | k + 1, s, ts, x, f, g, c, i, j => if j < (ts.length : Int) then (if 0 ≤ j then (if s.size ≤ maxLen ∧ (rdOf ByteArray.empty ts j).size ≤ maxLen ∧ c < 4398046511104 ∧ x.length < 4398046511104 then
   (if (f (rdOf ByteArray.empty ts j)).isSome = true then
    (if (f (rdOf ByteArray.empty ts j)).getD 0 = wrap64 ((f s).getD 0 + 1)
     then impl_searched.l1 moves k s ts x f (MapS.upd g (rdOf ByteArray.empty ts j) (impl_searched.cap (wrap64 ((g (rdOf ByteArray.empty ts j)).getD 0 + (g s).getD 0)))) (c + 1) i (wrap64 (j + 1))
     else impl_searched.l1 moves k s ts x f g (c + 1) i (wrap64 (j + 1)))
   else
    (if wrap64 ((f s).getD 0 + 1) = wrap64 ((MapS.upd f (rdOf ByteArray.empty ts j) (wrap64 ((f s).getD 0 + 1)) s).getD 0 + 1)
     then impl_searched.l1 moves k s ts (x ++ [rdOf ByteArray.empty ts j]) (MapS.upd f (rdOf ByteArray.empty ts j) (wrap64 ((f s).getD 0 + 1))) (MapS.upd g (rdOf ByteArray.empty ts j) (impl_searched.cap (wrap64 ((g (rdOf ByteArray.empty ts j)).getD 0 + (g s).getD 0)))) (c + 1 + 1) i (wrap64 (j + 1))
     else impl_searched.l1 moves k s ts (x ++ [rdOf ByteArray.empty ts j]) (MapS.upd f (rdOf ByteArray.empty ts j) (wrap64 ((f s).getD 0 + 1))) g (c + 1 + 1) i (wrap64 (j + 1)))) else none) else none) else impl_searched.l0 moves k x f g c (wrap64 (i + 1))
end
def impl_searched.f (moves : Nat → ByteArray → Option (List ByteArray)) (k : Nat) (a0 : ByteArray) : Option (List ByteArray × (ByteArray → Option Int) × (ByteArray → Option Int)) := impl_searched.l0 moves k [a0] (MapS.upd (fun _ => none) a0 0) (MapS.upd (fun _ => none) a0 1) 1 0
theorem impl_searched.mono_l {moves : Nat → ByteArray → Option (List ByteArray)} (hr : ∀ x0 n, LeO (moves n x0) (moves (n + 1) x0)) : ∀ k, (∀ y0 y1 y2 y3 y4, LeO (impl_searched.l0 moves k y0 y1 y2 y3 y4) (impl_searched.l0 moves (k + 1) y0 y1 y2 y3 y4)) ∧ (∀ y0 y1 y2 y3 y4 y5 y6 y7, LeO (impl_searched.l1 moves k y0 y1 y2 y3 y4 y5 y6 y7) (impl_searched.l1 moves (k + 1) y0 y1 y2 y3 y4 y5 y6 y7))
 | 0 => ⟨fun _ _ _ _ _ r h => by simp [impl_searched.l0] at h, fun _ _ _ _ _ _ _ _ r h => by simp [impl_searched.l1] at h⟩
 | k + 1 => by
  obtain ⟨ih0, ih1⟩ := impl_searched.mono_l hr k
  refine ⟨?_, ?_⟩
  ·intro y0 y1 y2 y3 y4
   unfold impl_searched.l0
   with_reducible repeat' first | exact ih1 _ _ _ _ _ _ _ _ | exact hr _ _ | exact LeO.refl _ | exact LeO.none _ | refine LeO.ite ?_ ?_ | refine LeO.bind ?_ (fun _ => ?_)
  ·intro y0 y1 y2 y3 y4 y5 y6 y7
   unfold impl_searched.l1
   with_reducible repeat' first | exact ih1 _ _ _ _ _ _ _ _ | exact ih0 _ _ _ _ _ | exact LeO.refl _ | exact LeO.none _ | refine LeO.ite ?_ ?_
theorem impl_searched.mono {moves : Nat → ByteArray → Option (List ByteArray)} (hr : ∀ x0 n, LeO (moves n x0) (moves (n + 1) x0)) : ∀ a0 k, LeO (impl_searched.f moves k a0) (impl_searched.f moves (k + 1) a0) := fun _ k => (impl_searched.mono_l hr k).1 _ _ _ _ _
theorem impl_searched.goesV_ {ops : Array Oper} {rest : List Oper} {oi : Oper} {a : Act} {w : World} {Q : Exit → Act → World → Prop} {f : FuncId} {lb : Array Value} {as_ : Array Operand} {ts : Array TypeId} {v : Operand} (N : Option Tmp) (hd : oi.dst = N) (hg : oi.guard = none) (args : Array Value)
  (hop : oi.op = .call { callee := .value v, args := as_, argTypes := ts }) (hv : a.eval v = .func (.func f) #[] lb) (hargs : as_.map a.eval = args) (eg : Go.Proofs.Enters Tryz.prog f)
  (h : Calls Tryz.prog f (args ++ lb) w fun e w' => ∃ v, e = .returned v ∧ wpList Tryz.prog ops Q rest (a.put N v) w') : wpList Tryz.prog ops Q (oi :: rest) a w := by
 refine wpList_plain hg fun K hK => ?_
 have he := eg (args ++ lb) w
 have hrun : (execOp a.eval oi).run Tryz.prog w = .ok (.enter f (args ++ lb)) w := by
  unfold execOp
  simp [hop, resolve, Deferred.ofValue, invoke, hv, hargs, he]
 unfold Oper.wp
 rw [hrun, Oper.upon_enter]
 refine h.mono fun e w'' hh => ?_
 obtain ⟨v, rfl, hk⟩ := hh
 subst hd
 exact hK _ _ hk
set_option maxHeartbeats 8000000 in
set_option maxRecDepth 100000 in
theorem impl_searched.calls (gf : Nat) (lb : Array Value) (eg : Go.Proofs.Enters Tryz.prog gf) (moves : Nat → ByteArray → Option (List ByteArray)) (k : Nat) (a0 : ByteArray) (r : List ByteArray × (ByteArray → Option Int) × (ByteArray → Option Int)) (w : World) (hs : a0.size ≤ maxLen)
  (hp : ∀ (j : Nat) (x : ByteArray) (ts : List ByteArray) (W : World), Below w.heap.size w W → moves j x = some ts → Calls Tryz.prog gf (#[.string x] ++ lb) W fun e w' => ∃ v, e = .returned v ∧ Kd.R Kd.string 9 w' W.heap.size (fun _ => True) v ts ∧ Below W.heap.size W w')
  (h : impl_searched.f moves k a0 = some r) :
  Calls Tryz.prog 73 #[.string a0, .func (.func gf) #[] lb] w fun e w' => ∃ gb, e = .returned (.pointer (some ⟨gb, 0, none⟩)) ∧ ∃ b1 b2 v c, impl_searched.St w w' gb b1 b2 (fun _ => True) v r.1 r.2.1 r.2.2 c := by
 have hmm := @run_makeMap Tryz.prog
 have HP_ := aM hp
 clear hp
 have EG_ := aM eg
 clear eg
 have HS := aM hs
 clear hs
 have H' := aM (show impl_searched.l0 moves k [a0] (MapS.upd (fun _ => none) a0 0) (MapS.upd (fun _ => none) a0 1) 1 0 = some r from h)
 clear h
 go_enter Tryz.func73, Tryz.ntmps73
 go_wp2_with (first | ((with_reducible refine gate_dst (N := 13) rfl ?_); refine Kd.R_lit Kd.string _ 9 ?hg (N := 13) ?hd (xs := ([a0] : List ByteArray)) (inner := [.string a0]) (ok := fun _ => True) (okp := fun _ => True) ?hr ?hp (fun _ hk => hk) trivial (Below.refl _ _) (Nat.le_refl _) (by simp) ?_; (case hd => rfl); (case hg => rfl); (case hr => go_simp); (case hp => exact (Reps.one (show Kd.M Kd.string _ _ _ a0 [.string a0] from rfl) (Reps.none _ _))); intro v1 w1 ho hb hg_ hnew_; clear hg_ hnew_; obtain ⟨A1, c1, eo⟩ := Kd.R_slice ho; subst eo; have HL := aM ho; have HB := aM hb; clear ho hb) | (refine MapS.upd_ (MapS.M_made _) (by decide) HS.out (c := 0) (by decide) rfl (.tmp 14) _ _ (Or.inr rfl) rfl rfl rfl ?_; intro w2 hM hg2; have HM1 := aM hM; have HG2 := aM hg2; clear hM hg2) | (refine MapS.upd_ (MapS.M_made _) (by decide) HS.out (c := 1) (by decide) rfl (.tmp 17) _ _ (Or.inr rfl) rfl rfl rfl ?_; intro w3 hM hg3; have HM2 := aM hM; have HG3 := aM hg3; clear hM hg3) | ((with_reducible refine gate_dst (N := 21) rfl ?_); refine box_event ?hg (N := 21) ?hd (cs := #[.slice A1 [a0].length c1, .map (some w1.heap.size), .map (some w2.heap.size)]) (t := 85) ?hr ?_; (case hd => rfl); (case hg => rfl); (case hr => go_simp); intro gb hg4 w4 hbox hb4; have BK := aM hbox; have HB4 := aM hb4; have HG4 := aM hg4; clear hbox hb4 hg4))
 have S0 : impl_searched.St w w4 gb w1.heap.size w2.heap.size (fun _ => True) (.slice A1 [a0].length c1) [a0] (MapS.upd (fun _ => none) a0 0) (MapS.upd (fun _ => none) a0 1) 1 := by
  have hle : w.heap.size ≤ w1.heap.size := HB.out.size
  have hl1 : w1.heap.size < w2.heap.size := by have := HG2.out.size; simp at this; omega
  have hl2 : w2.heap.size ≤ w3.heap.size := by have := HG3.out.size; simp at this; omega
  have ha := Kd.R_grown2 (Kd.R_alloc HL.out (.map #[] 0)) rfl HG2.out (fun k hk => by cases hk; intro e; exact absurd (Kd.R_lt HL.out _ e.symm) (Nat.lt_irrefl _))
  have hb := Kd.R_grown2 (Kd.R_alloc ha (.map #[] 0)) rfl HG3.out (fun k hk => by cases hk; intro e; exact absurd (Kd.R_lt ha _ e.symm) (Nat.lt_irrefl _))
  have hm := MapS.M_grown (MapS.M_alloc HM1.out (.map #[] 0)) HG3.out (fun e => by have := Option.some.inj e; omega)
  have hB2 : Below w.heap.size w w2 := (below_alloc HB.out (.map #[] 0)).grown HG2.out (by simp; omega) (fun k hk => by cases hk; exact hle)
  have hB3 : Below w.heap.size w w3 := (below_alloc hB2 (.map #[] 0)).grown HG3.out (by simp; omega) (fun k hk => by cases hk; omega)
  exact ⟨Kd.R_below hb HB4.out, BK.out, MapS.M_below hm HB4.out, MapS.M_below HM2.out HB4.out, ⟨by rw [HG4.out]; omega, hle, by omega, by omega⟩, below_step hB3 HB4.out⟩
 have SS := aM S0
 clear S0 HL HB HM1 HM2 HG2 HG3 BK HB4 HG4
 generalize hn1 : w1.heap.size = b1 at SS ⊢
 generalize hn2 : w2.heap.size = b2 at SS ⊢
 clear hn1 hn2
 go_loopg [6] k (fun kq v6 w' => ∃ (v : Value) (x : List ByteArray) (f g : ByteArray → Option Int) (c : Nat) (i : Int), v6 = .int .i64 i ∧ Aside0 (impl_searched.l0 moves kq x f g c i = some r) ∧ Aside0 (kq ≤ k) ∧ Aside0 (impl_searched.St w w' gb b1 b2 (fun _ => True) v x f g c))
 case atStart => exact ⟨_, [a0], _, _, 1, 0, rfl, H', ⟨Nat.le_refl _⟩, SS⟩
 case round =>
  clear H' SS
  obtain ⟨v, x, f, g, c, i, rfl, HA, HK1, SS⟩ := hrel
  cases gk with
  | zero => exact absurd HA.out (by simp [impl_searched.l0])
  | succ k1 =>
   have H := HA.out
   clear HA
   simp only [impl_searched.l0] at H
   obtain ⟨A2, c2, eo⟩ := Kd.R_slice SS.out.lst
   subst eo
   have hz0 : wr.cell? ⟨gb, 0, none⟩ = some (.slice A2 x.length c2) := (blk_cell SS.out.blk 0).trans rfl
   replace H := iO H; obtain ⟨c5, H⟩ | ⟨c5, H⟩ := H
   ·have c5b0 := decide_eq_true c5
    clear c5
    replace H := iC H; obtain ⟨c6, H⟩ := H
    have c6b0 := decide_eq_true c6
    clear c6
    obtain ⟨ts, A70, H⟩ := Option.bind_eq_some_iff.mp H
    have A7 := aM A70
    have H' := aM H
    clear A70 H; have p1 : 0 ≤ (i : Int) := oD; have q1 : i < (x.length : Int) := oD
    obtain ⟨ad1, e1, hx1⟩ := Kd.at_string (Kd.R_reads' SS.out.lst).2.2 i p1 q1
    cases e1; replace p1 := eq_true p1; replace q1 := eq_true q1
    generalize hs1 : rdOf ByteArray.empty x i = s1 at hx1 A7 H'
    clear hs1
    go_wp2_with (first | ((with_reducible refine gate_dst (N := 40) rfl ?_); refine impl_searched.goesV_ (f := gf) (lb := lb) (some 40) rfl rfl #[.string s1] rfl rfl (by (try simp only [List.map_toArray, List.map_cons, List.map_nil]); first | done | rfl) EG_.out ?_; (with_reducible refine (HP_.out k1 s1 ts _ SS.out.bel A7.out).mono ?_); rintro e w8 ⟨vt, rfl, ho, hb⟩; refine ⟨_, rfl, ?_⟩; obtain ⟨A3, c3, eo⟩ := Kd.R_slice ho; subst eo; have ST := aM (Kd.R_lower (Kd.R_new' ho (Kd.R_lt SS.out.lst)) SS.out.bel.size); have n0 := aM (show impl_searched.St w w8 gb b1 b2 (fun k => True ∧ some k ≠ (.slice A3 ts.length c3 : Value).ownBlock) (.slice (some ad1) x.length c2) x f g c from ⟨Kd.R_elder' SS.out.lst (Kd.R_base ho) hb, (SS.out.below hb).blk, (SS.out.below hb).far, (SS.out.below hb).way, SS.out.ge, (SS.out.below hb).bel⟩); clear SS; have SS := n0; clear n0 ho hb))
    clear hx1 hz0 p1 q1
    go_loopg [42] k1 (fun kq v42 w' => ∃ (v : Value) (x : List ByteArray) (f g : ByteArray → Option Int) (c : Nat) (j : Int), v42 = .int .i64 j ∧ Aside0 (impl_searched.l1 moves kq s1 ts x f g c i j = some r) ∧ Aside0 (kq ≤ k1) ∧ Aside0 (Kd.R Kd.string 9 w' w.heap.size (fun k => True ∧ some k ≠ v.ownBlock) (.slice A3 ts.length c3) ts) ∧ Aside0 (impl_searched.St w w' gb b1 b2 (fun k => True ∧ some k ≠ (.slice A3 ts.length c3 : Value).ownBlock) v x f g c))
    case atStart => exact ⟨_, x, f, g, c, 0, rfl, H', ⟨Nat.le_refl _⟩, ST, SS⟩
    case round =>
     clear H' ST SS c5b0 c6b0 A7
     obtain ⟨v, x, f, g, c, j, rfl, HA, HK2, ST, SS⟩ := hrel
     cases gk with
     | zero => exact absurd HA.out (by simp [impl_searched.l1])
     | succ k2 =>
      have H := HA.out
      clear HA
      simp only [impl_searched.l1] at H
      replace H := iO H; obtain ⟨c7, H⟩ | ⟨c7, H⟩ := H
      ·have c7b0 := decide_eq_true c7
       clear c7
       replace H := iN H; obtain ⟨c8b0, H⟩ := H
       obtain ⟨A4, c4, eo⟩ := Kd.R_slice SS.out.lst
       subst eo
       have p2 : 0 ≤ (j : Int) := oD; have q2 : j < (ts.length : Int) := oD
       obtain ⟨ad2, e2, hx2⟩ := Kd.at_string (Kd.R_reads' ST.out).2.2 j p2 q2
       cases e2; replace p2 := eq_true p2; replace q2 := eq_true q2
       generalize hs2 : rdOf ByteArray.empty ts j = t at hx2 H
       clear hs2
       replace H := iC H; obtain ⟨c9, H⟩ := H
       have G9 := aM c9
       clear c9
       have hz0 : wr.cell? ⟨gb, 0, none⟩ = some (.slice A4 x.length c4) := (blk_cell SS.out.blk 0).trans rfl
       have hz1 : wr.cell? ⟨gb, 1, none⟩ = some (.map (some b1)) := (blk_cell SS.out.blk 1).trans rfl
       have hz2 : wr.cell? ⟨gb, 2, none⟩ = some (.map (some b2)) := (blk_cell SS.out.blk 2).trans rfl
       have hzf := blk_frozen SS.out.blk 0
       obtain ⟨n1, hn1⟩ : ∃ n, (f s1).getD 0 = n := ⟨_, rfl⟩
       obtain ⟨n2, hn2⟩ : ∃ n, (f t).getD 0 = n := ⟨_, rfl⟩
       have N1 := aM hn1
       have N2 := aM hn2
       by_cases c10 : (f t).isSome = true
       ·rw [if_pos c10, hn1, hn2] at H
        have F10 := aM c10
        clear c10 hn1 hn2
        replace H := iO H; obtain ⟨c11, H⟩ | ⟨c11, H⟩ := H
        ·have c11b0 : (n2 == wrap64 (n1 + 1)) = true := beq_iff_eq.mpr c11
         clear c11
         obtain ⟨n3, hn3⟩ : ∃ n, (g t).getD 0 = n := ⟨_, rfl⟩
         obtain ⟨n4, hn4⟩ : ∃ n, (g s1).getD 0 = n := ⟨_, rfl⟩
         rw [hn3, hn4] at H
         have H' := aM H
         clear H
         go_wp2_with (first | (at_lookup; refine MapS.look2_v SS.out.far N2.out F10.out G9.out.2.1 rfl _ _ rfl rfl rfl ?_) | (at_lookup; refine MapS.look_v SS.out.far N1.out G9.out.1 rfl _ _ rfl rfl rfl ?_))
         have hl3 := MapS.M_look (MapS.M_drew SS.out.way) t G9.out.2.1
         have hl4 := MapS.M_look (MapS.M_drew SS.out.way) s1 G9.out.1
         rw [hn3] at hl3
         rw [hn4] at hl4
         clear hn3 hn4
         obtain ⟨w9, hput, hM, hg9⟩ := MapS.M_put (MapS.M_drew SS.out.way) (Nat.lt_of_lt_of_le G9.out.2.2.1 (by decide)) t G9.out.2.1 (impl_searched.cap (wrap64 (n3 + n4))) (impl_searched.cap_wf (wrap64_wf _))
         simp only [impl_searched.cap] at hput
         have SD := SS.out.below (Below.refl _ _).drew
         have n0 := aM (SD.put2 hM hg9)
         have n9 := aM (Kd.R_grown2 (Kd.R_drew ST.out) rfl hg9 (fun k hk => by cases hk; intro e; obtain ⟨cells, hc⟩ := Kd.R_typed ST.out _ e.symm; exact MapS.M_apart SS.out.way hc rfl))
         clear hM hg9 SD
         go_region
         all_goals go_wp2
         all_goals (go_roundg k2; (case measure => have := HK1.out; have := HK2.out; omega); (case rel => exact ⟨_, _, _, _, _, (wrap64 (j + 1)), rfl, H', ⟨by have := HK1.out; have := HK2.out; omega⟩, n9, n0⟩))
        ·have c11b0 : (n2 == wrap64 (n1 + 1)) = false := beq_eq_false_iff_ne.mpr c11
         clear c11
         have H' := aM H
         clear H
         go_wp2_with (first | (at_lookup; refine MapS.look2_v SS.out.far N2.out F10.out G9.out.2.1 rfl _ _ rfl rfl rfl ?_) | (at_lookup; refine MapS.look_v SS.out.far N1.out G9.out.1 rfl _ _ rfl rfl rfl ?_))
         go_roundg k2
         case measure => have := HK1.out; have := HK2.out; omega
         case rel => exact ⟨_, x, f, g, c + 1, (wrap64 (j + 1)), rfl, H', ⟨by have := HK1.out; have := HK2.out; omega⟩, ST, ⟨SS.out.more⟩⟩
       ·rw [if_neg c10, hn1] at H
        have F10 := aM (Bool.eq_false_iff.mpr c10)
        clear c10 hn1 hn2
        obtain ⟨n5, hn5⟩ : ∃ n, (MapS.upd f t (wrap64 (n1 + 1)) s1).getD 0 = n := ⟨_, rfl⟩
        rw [hn5] at H
        have N5 := aM hn5
        clear hn5
        obtain ⟨y, hy⟩ : ∃ y : List ByteArray, y = x ++ [t] := ⟨_, rfl⟩
        rw [← hy] at H
        have NY := aM hy
        clear hy
        replace H := iO H; obtain ⟨c11, H⟩ | ⟨c11, H⟩ := H
        ·have c11b0 : (wrap64 (n1 + 1) == wrap64 (n5 + 1)) = true := beq_iff_eq.mpr c11
         clear c11
         obtain ⟨n3, hn3⟩ : ∃ n, (g t).getD 0 = n := ⟨_, rfl⟩
         obtain ⟨n4, hn4⟩ : ∃ n, (g s1).getD 0 = n := ⟨_, rfl⟩
         rw [hn3, hn4] at H
         have H' := aM H
         clear H
         go_wp2_with (first | (at_lookup; refine MapS.look2_v SS.out.far N2.out F10.out G9.out.2.1 rfl _ _ rfl rfl rfl ?_) | (at_lookup; refine MapS.look_v SS.out.far N1.out G9.out.1 rfl _ _ rfl rfl rfl ?_) | (at_lookup; refine MapS.look_v SS.out.far N5.out G9.out.1 rfl _ _ rfl rfl rfl ?_) | (at_mapUpdate; refine MapS.upd_ SS.out.far (Nat.lt_of_lt_of_le G9.out.2.2.1 (by decide)) G9.out.2.1 (c := wrap64 (n1 + 1)) (wrap64_wf _) rfl (.tmp 67) _ _ (Or.inl rfl) rfl rfl rfl ?_; intro w5 hM hg5; have m0 := aM (SS.out.put1 hM hg5); have m1 := aM (Kd.R_grown2 ST.out rfl hg5 (fun k hk => by cases hk; intro e; obtain ⟨cells, hc⟩ := Kd.R_typed ST.out _ e.symm; exact MapS.M_apart SS.out.far hc rfl)); clear SS ST hz0 hz1 hz2 hzf hM hg5; have SS := m0; have ST := m1; clear m0 m1; have hz0 : w5.cell? ⟨gb, 0, none⟩ = some (.slice A4 x.length c4) := (blk_cell SS.out.blk 0).trans rfl) | ((with_reducible refine gate_builtin (b := .append) (xs := #[.tmp 74, .tmp 76]) rfl ?_); at_builtin; refine Kd.R_append Kd.string (w0 := w) w.heap.size rfl (.tmp 74) (.tmp 76) 22 9 (.string ⟨#[]⟩) 16 rfl Tryz.underlying22 info9 rfl (by decide) (by omega) (.slice A4 x.length c4) x t [.string t] (fun k => True ∧ some k ≠ (.slice (some ad2) ts.length c3 : Value).ownBlock) (fun _ => False) rfl rfl ?aP (fun _ hk => hk.elim) ?aF ?aO ?aB ?aS ?aL ?_; (case aP => exact rfl); (case aB => exact SS.out.bel); (case aF => exact fun k hk => ⟨trivial, fun e => absurd (Kd.R_lt ST.out k e.symm) (Nat.not_lt.2 hk)⟩); (case aO => exact SS.out.lst); (case aS => exact SS.out.bel.size); (case aL => have := G9.out.2.2.2; omega); intro v6 w6 ho hb hg hat; rw [← NY.out] at ho; obtain ⟨A6, c6, eo⟩ := Kd.R_slice ho; subst eo; have HO6 := aM ho; have HB6 := aM hb; have HG6 := aM hg; have ST6 := aM (Kd.R_after ST.out hg hat); have BK6 := aM (blk_grown SS.out.blk hg (Kd.R_ne SS.out.lst SS.out.blk (by decide))); clear ho hb hg hat ST hz0; have hz0 : w6.cell? ⟨gb, 0, none⟩ = some (.slice A4 x.length c4) := (blk_cell BK6.out 0).trans rfl; have hzf := blk_frozen BK6.out 0) | ((with_reducible refine gate_store (t := 22) (p := 79) rfl ?_); refine store_event (t := 22) (p := 79) (v := ?vo) (w1 := (w6.setCell ⟨gb, 0, none⟩ (.slice A6 y.length c6))) ?hg ?ho ?hn ?hr ?_; (case ho => rfl); (case hg => rfl); (case hn => rfl); (case hr => go_simp); intro w7 hw; have m0 := SS.out.push HO6.out HB6.out HG6.out; rw [← hw] at m0; have m0 := aM m0; have m1 := Kd.R_grown2 ST6.out rfl (impl_searched.grown_set w6 gb 0 (.slice A6 y.length c6)) (fun k hk => by cases hk; exact Kd.R_ne ST6.out BK6.out (by decide)); rw [← hw] at m1; have m1 := aM m1; clear SS ST6 HO6 HB6 HG6 BK6 hz0 hzf hw; have SS := m0; have ST := m1; clear m0 m1; have hz1 : w7.cell? ⟨gb, 1, none⟩ = some (.map (some b1)) := (blk_cell SS.out.blk 1).trans rfl; have hz2 : w7.cell? ⟨gb, 2, none⟩ = some (.map (some b2)) := (blk_cell SS.out.blk 2).trans rfl))
         have hl3 := MapS.M_look (MapS.M_drew SS.out.way) t G9.out.2.1
         have hl4 := MapS.M_look (MapS.M_drew SS.out.way) s1 G9.out.1
         rw [hn3] at hl3
         rw [hn4] at hl4
         clear hn3 hn4
         obtain ⟨w9, hput, hM, hg9⟩ := MapS.M_put (MapS.M_drew SS.out.way) (Nat.lt_of_lt_of_le (Nat.succ_lt_succ G9.out.2.2.1) (by decide)) t G9.out.2.1 (impl_searched.cap (wrap64 (n3 + n4))) (impl_searched.cap_wf (wrap64_wf _))
         simp only [impl_searched.cap] at hput
         have SD := SS.out.below (Below.refl _ _).drew
         have n0 := aM (SD.put2 hM hg9)
         have n9 := aM (Kd.R_grown2 (Kd.R_drew ST.out) rfl hg9 (fun k hk => by cases hk; intro e; obtain ⟨cells, hc⟩ := Kd.R_typed ST.out _ e.symm; exact MapS.M_apart SS.out.way hc rfl))
         clear hM hg9 SD
         go_region
         all_goals go_wp2
         all_goals (go_roundg k2; (case measure => have := HK1.out; have := HK2.out; omega); (case rel => exact ⟨_, _, _, _, _, (wrap64 (j + 1)), rfl, H', ⟨by have := HK1.out; have := HK2.out; omega⟩, n9, n0⟩))
        ·have c11b0 : (wrap64 (n1 + 1) == wrap64 (n5 + 1)) = false := beq_eq_false_iff_ne.mpr c11
         clear c11
         have H' := aM H
         clear H
         go_wp2_with (first | (at_lookup; refine MapS.look2_v SS.out.far N2.out F10.out G9.out.2.1 rfl _ _ rfl rfl rfl ?_) | (at_lookup; refine MapS.look_v SS.out.far N1.out G9.out.1 rfl _ _ rfl rfl rfl ?_) | (at_lookup; refine MapS.look_v SS.out.far N5.out G9.out.1 rfl _ _ rfl rfl rfl ?_) | (at_mapUpdate; refine MapS.upd_ SS.out.far (Nat.lt_of_lt_of_le G9.out.2.2.1 (by decide)) G9.out.2.1 (c := wrap64 (n1 + 1)) (wrap64_wf _) rfl (.tmp 67) _ _ (Or.inl rfl) rfl rfl rfl ?_; intro w5 hM hg5; have m0 := aM (SS.out.put1 hM hg5); have m1 := aM (Kd.R_grown2 ST.out rfl hg5 (fun k hk => by cases hk; intro e; obtain ⟨cells, hc⟩ := Kd.R_typed ST.out _ e.symm; exact MapS.M_apart SS.out.far hc rfl)); clear SS ST hz0 hz1 hz2 hzf hM hg5; have SS := m0; have ST := m1; clear m0 m1; have hz0 : w5.cell? ⟨gb, 0, none⟩ = some (.slice A4 x.length c4) := (blk_cell SS.out.blk 0).trans rfl) | ((with_reducible refine gate_builtin (b := .append) (xs := #[.tmp 74, .tmp 76]) rfl ?_); at_builtin; refine Kd.R_append Kd.string (w0 := w) w.heap.size rfl (.tmp 74) (.tmp 76) 22 9 (.string ⟨#[]⟩) 16 rfl Tryz.underlying22 info9 rfl (by decide) (by omega) (.slice A4 x.length c4) x t [.string t] (fun k => True ∧ some k ≠ (.slice (some ad2) ts.length c3 : Value).ownBlock) (fun _ => False) rfl rfl ?aP (fun _ hk => hk.elim) ?aF ?aO ?aB ?aS ?aL ?_; (case aP => exact rfl); (case aB => exact SS.out.bel); (case aF => exact fun k hk => ⟨trivial, fun e => absurd (Kd.R_lt ST.out k e.symm) (Nat.not_lt.2 hk)⟩); (case aO => exact SS.out.lst); (case aS => exact SS.out.bel.size); (case aL => have := G9.out.2.2.2; omega); intro v6 w6 ho hb hg hat; rw [← NY.out] at ho; obtain ⟨A6, c6, eo⟩ := Kd.R_slice ho; subst eo; have HO6 := aM ho; have HB6 := aM hb; have HG6 := aM hg; have ST6 := aM (Kd.R_after ST.out hg hat); have BK6 := aM (blk_grown SS.out.blk hg (Kd.R_ne SS.out.lst SS.out.blk (by decide))); clear ho hb hg hat ST hz0; have hz0 : w6.cell? ⟨gb, 0, none⟩ = some (.slice A4 x.length c4) := (blk_cell BK6.out 0).trans rfl; have hzf := blk_frozen BK6.out 0) | ((with_reducible refine gate_store (t := 22) (p := 79) rfl ?_); refine store_event (t := 22) (p := 79) (v := ?vo) (w1 := (w6.setCell ⟨gb, 0, none⟩ (.slice A6 y.length c6))) ?hg ?ho ?hn ?hr ?_; (case ho => rfl); (case hg => rfl); (case hn => rfl); (case hr => go_simp); intro w7 hw; have m0 := SS.out.push HO6.out HB6.out HG6.out; rw [← hw] at m0; have m0 := aM m0; have m1 := Kd.R_grown2 ST6.out rfl (impl_searched.grown_set w6 gb 0 (.slice A6 y.length c6)) (fun k hk => by cases hk; exact Kd.R_ne ST6.out BK6.out (by decide)); rw [← hw] at m1; have m1 := aM m1; clear SS ST6 HO6 HB6 HG6 BK6 hz0 hzf hw; have SS := m0; have ST := m1; clear m0 m1; have hz1 : w7.cell? ⟨gb, 1, none⟩ = some (.map (some b1)) := (blk_cell SS.out.blk 1).trans rfl; have hz2 : w7.cell? ⟨gb, 2, none⟩ = some (.map (some b2)) := (blk_cell SS.out.blk 2).trans rfl))
         go_roundg k2
         case measure => have := HK1.out; have := HK2.out; omega
         case rel => exact ⟨_, _, _, _, _, (wrap64 (j + 1)), rfl, H', ⟨by have := HK1.out; have := HK2.out; omega⟩, ST, ⟨SS.out.more⟩⟩
      ·have c7b0 := decide_eq_false c7
       clear c7
       have H' := aM H
       clear H
       go_wp2
       go_roundg k2
       case measure => have := HK1.out; have := HK2.out; omega
       case rel => exact ⟨v, x, f, g, c, (wrap64 (i + 1)), rfl, H', ⟨by have := HK1.out; have := HK2.out; omega⟩, ⟨⟨Kd.R_mono SS.out.lst (fun _ _ => trivial), SS.out.blk, SS.out.far, SS.out.way, SS.out.ge, SS.out.bel⟩⟩⟩
   ·have c5b0 := decide_eq_false c5
    clear c5
    obtain rfl := Option.some.inj H
    go_wp2
    go_ret
    exact ⟨gb, rfl, b1, b2, _, c, SS.out⟩

/-! ### impl_partsOf: function 39 (told by hand) -/
mutual
def impl_partsOf.l0 (srch : Nat → ByteArray → Option (List ByteArray)) (ss : List ByteArray) : Nat → (ByteArray → Bool) → Nat → Int → Int → Option Int
 | 0, _, _, _, _ => none
 | k + 1, f, c, n, i => if i < (ss.length : Int) then (if 0 ≤ i then (if (rdOf ByteArray.empty ss i).size ≤ maxLen then
   (if f (rdOf ByteArray.empty ss i) = true then impl_partsOf.l0 srch ss k f c n (wrap64 (i + 1))
    else (srch k (rdOf ByteArray.empty ss i)).bind fun ts => impl_partsOf.l1 srch ss k ts f c (wrap64 (n + 1)) i 0) else none) else none) else some n
def impl_partsOf.l1 (srch : Nat → ByteArray → Option (List ByteArray)) (ss : List ByteArray) : Nat → List ByteArray → (ByteArray → Bool) → Nat → Int → Int → Int → Option Int
 | 0, _, _, _, _, _, _ => none
 | k + 1, ts, f, c, n, i, j => if j < (ts.length : Int) then (if 0 ≤ j then (if (rdOf ByteArray.empty ts j).size ≤ maxLen ∧ c < 4398046511104 then
   impl_partsOf.l1 srch ss k ts (MapB.upd f (rdOf ByteArray.empty ts j)) (c + 1) n i (wrap64 (j + 1)) else none) else none) else impl_partsOf.l0 srch ss k f c n (wrap64 (i + 1))
end
def impl_partsOf.f (srch : Nat → ByteArray → Option (List ByteArray)) (k : Nat) (a0 : List ByteArray) : Option Int := impl_partsOf.l0 srch a0 k (fun _ => false) 0 0 0
theorem impl_partsOf.mono_l {srch : Nat → ByteArray → Option (List ByteArray)} (hr : ∀ x0 n, LeO (srch n x0) (srch (n + 1) x0)) (ss : List ByteArray) : ∀ k, (∀ y0 y1 y2 y3, LeO (impl_partsOf.l0 srch ss k y0 y1 y2 y3) (impl_partsOf.l0 srch ss (k + 1) y0 y1 y2 y3)) ∧ (∀ y0 y1 y2 y3 y4 y5, LeO (impl_partsOf.l1 srch ss k y0 y1 y2 y3 y4 y5) (impl_partsOf.l1 srch ss (k + 1) y0 y1 y2 y3 y4 y5))
 | 0 => ⟨fun _ _ _ _ r h => by simp [impl_partsOf.l0] at h, fun _ _ _ _ _ _ r h => by simp [impl_partsOf.l1] at h⟩
 | k + 1 => by
  obtain ⟨ih0, ih1⟩ := impl_partsOf.mono_l hr ss k
  refine ⟨?_, ?_⟩
  ·intro y0 y1 y2 y3
   unfold impl_partsOf.l0
   exact LeO.ite (LeO.ite (LeO.ite (LeO.ite (ih0 _ _ _ _) (LeO.bind (hr _ _) (fun _ => ih1 _ _ _ _ _ _))) (LeO.none _)) (LeO.none _)) (LeO.refl _)
  ·intro y0 y1 y2 y3 y4 y5
   unfold impl_partsOf.l1
   exact LeO.ite (LeO.ite (LeO.ite (ih1 _ _ _ _ _ _) (LeO.none _)) (LeO.none _)) (ih0 _ _ _ _)
theorem impl_partsOf.mono {srch : Nat → ByteArray → Option (List ByteArray)} (hr : ∀ x0 n, LeO (srch n x0) (srch (n + 1) x0)) : ∀ a0 k, LeO (impl_partsOf.f srch k a0) (impl_partsOf.f srch (k + 1) a0) := fun a0 k => (impl_partsOf.mono_l hr a0 k).1 _ _ _ _
set_option maxHeartbeats 8000000 in
set_option maxRecDepth 100000 in
theorem impl_partsOf.calls (gf : Nat) (lb : Array Value) (eg : Go.Proofs.Enters Tryz.prog gf) (srch : Nat → ByteArray → Option (List ByteArray)) (k : Nat) (A0 : Option Addr) (c0 : Nat) (l0 : List ByteArray) (r : Int) (w : World) (hr0 : Kd.C Kd.string w A0 l0.length l0) (hc0 : l0.length ≤ c0)
  (hp : ∀ (j : Nat) (x : ByteArray) (ts : List ByteArray) (W : World), Below w.heap.size w W → x.size ≤ maxLen → srch j x = some ts → Calls Tryz.prog gf (#[.string x] ++ lb) W fun e w' => ∃ gb, e = .returned (.pointer (some ⟨gb, 0, none⟩)) ∧ ∃ b1 b2 v f g c, impl_searched.St W w' gb b1 b2 (fun _ => True) v ts f g c)
  (h : impl_partsOf.f srch k l0 = some r) :
  Calls Tryz.prog 39 #[.slice A0 l0.length c0, .func (.func gf) #[] lb] w fun e w' => e = .returned (.int .i64 r) ∧ Below w.heap.size w w' := by
 have hmm := @run_makeMap Tryz.prog
 have HP_ := aM hp
 clear hp
 have EG_ := aM eg
 clear eg
 have HR0 := aM hr0
 have HC0 := aM hc0
 clear hr0 hc0
 have H' := aM (show impl_partsOf.l0 srch l0 k (fun _ => false) 0 0 0 = some r from h)
 clear h
 have HM := aM (MapB.M_made w)
 have HB := aM (below_alloc (Below.refl w.heap.size w) (.map #[] 0))
 go_enter Tryz.func39, Tryz.ntmps39
 go_wp2
 generalize hwb : w.alloc (.map #[] 0) = w1 at HM HB ⊢
 clear hwb
 obtain ⟨b, hb⟩ : ∃ b, w.heap.size = b := ⟨_, rfl⟩
 have hvb : Value.map (some w.heap.size) = .map (some b) := by rw [hb]
 rw [hvb]
 have HBK := aM (Nat.le_of_eq hb)
 have HM1 := aM (hb ▸ HM.out)
 clear HM hb hvb
 have HM := HM1
 clear HM1
 go_loopg [6, 14] k (fun kq v6 v14 w' => ∃ (f : ByteArray → Bool) (c : Nat) (n i : Int), v6 = .int .i64 n ∧ v14 = .int .i64 i ∧ Aside0 (impl_partsOf.l0 srch l0 kq f c n i = some r) ∧ Aside0 (kq ≤ k) ∧ Aside0 (MapB.M w' b c f) ∧ Aside0 (Below w.heap.size w w'))
 case atStart => exact ⟨_, 0, 0, 0, rfl, rfl, H', ⟨Nat.le_refl _⟩, HM, HB⟩
 case round =>
  clear H' HM HB
  obtain ⟨f, c, n, i, rfl, rfl, HA, HK1, HM, HB⟩ := hrel
  cases gk with
  | zero => exact absurd HA.out (by simp [impl_partsOf.l0])
  | succ k1 =>
   have H := HA.out
   clear HA
   simp only [impl_partsOf.l0] at H
   replace H := iO H; obtain ⟨c5, H⟩ | ⟨c5, H⟩ := H
   ·have c5b0 := decide_eq_true c5
    replace H := iO H; obtain ⟨c6, H⟩ | ⟨c6, H⟩ := H
    ·have c6b0 := decide_eq_true c6
     obtain ⟨ad1, e1, hx1⟩ := Kd.at_string (Kd.C_below HR0.out HB.out) i c6 c5
     have q1 := eq_true c5
     have q2 := eq_true c6
     clear c5 c6; cases e1
     generalize hs1 : rdOf ByteArray.empty l0 i = s1 at hx1 H
     clear hs1
     replace H := iO H; obtain ⟨c7, H⟩ | ⟨c7, H⟩ := H
     ·have S1 := aM (show s1.size ≤ maxLen ∧ True from ⟨c7, trivial⟩)
      clear c7
      replace H := iO H; obtain ⟨c8, H⟩ | ⟨c8, H⟩ := H
      ·have F8 := aM c8
       clear c8
       have H' := aM H
       clear H
       go_wp2_with (at_lookup; refine MapB.look_v HM.out F8.out S1.out.1 rfl _ _ rfl rfl rfl ?_)
       go_roundg k1
       case measure => have := HK1.out; omega
       case rel => exact ⟨f, c, n, wrap64 (i + 1), rfl, rfl, H', ⟨by have := HK1.out; omega⟩, HM, HB⟩
      ·have F8 := aM (Bool.eq_false_iff.mpr c8)
       clear c8
       obtain ⟨ts, A70, H⟩ := Option.bind_eq_some_iff.mp H
       have A7 := aM A70
       have H' := aM H
       clear A70 H
       go_wp2_with (first | (at_lookup; refine MapB.look_v HM.out F8.out S1.out.1 rfl _ _ rfl rfl rfl ?_) | ((with_reducible refine gate_dst (N := 25) rfl ?_); refine impl_searched.goesV_ (f := gf) (lb := lb) (some 25) rfl rfl #[.string s1] rfl rfl (by (try simp only [List.map_toArray, List.map_cons, List.map_nil]); first | done | rfl) EG_.out ?_; (with_reducible refine (HP_.out k1 s1 ts _ HB.out S1.out.1 A7.out).mono ?_); rintro e w8 ⟨gb, rfl, b1, b2, vt, f2, g2, c2, hS⟩; refine ⟨_, rfl, ?_⟩; obtain ⟨A3, c3, eo⟩ := Kd.R_slice hS.lst; subst eo; have ST := aM (Kd.R_lower hS.lst HB.out.size); have HM8 := aM (MapB.M_below HM.out hS.bel); have HB8 := aM (below_step HB.out hS.bel); have hz0 : w8.cell? ⟨gb, 0, none⟩ = some (.slice A3 ts.length c3) := (blk_cell hS.blk 0).trans rfl; clear HM HB hS; have HM := HM8; have HB := HB8; clear HM8 HB8))
       clear hx1 q1 q2; clear hz0
       go_loopg [30] k1 (fun kq v30 w' => ∃ (f : ByteArray → Bool) (c : Nat) (j : Int), v30 = .int .i64 j ∧ Aside0 (impl_partsOf.l1 srch l0 kq ts f c (wrap64 (n + 1)) i j = some r) ∧ Aside0 (kq ≤ k1) ∧ Aside0 (Kd.R Kd.string 9 w' w.heap.size (fun _ => True) (.slice A3 ts.length c3) ts) ∧ Aside0 (MapB.M w' b c f) ∧ Aside0 (Below w.heap.size w w'))
       case atStart => exact ⟨f, c, 0, rfl, H', ⟨Nat.le_refl _⟩, ST, HM, HB⟩
       case round =>
        clear H' ST HM HB c5b0 c6b0 A7 F8
        obtain ⟨f, c, j, rfl, HA, HK2, ST, HM, HB⟩ := hrel
        cases gk with
        | zero => exact absurd HA.out (by simp [impl_partsOf.l1])
        | succ k2 =>
         have H := HA.out
         clear HA
         simp only [impl_partsOf.l1] at H
         replace H := iO H; obtain ⟨c7, H⟩ | ⟨c7, H⟩ := H
         ·have c7b0 := decide_eq_true c7
          replace H := iO H; obtain ⟨c8, H⟩ | ⟨c8, H⟩ := H
          ·have c8b0 := decide_eq_true c8
           obtain ⟨ad2, e2, hx2⟩ := Kd.at_string (Kd.R_reads' ST.out).2.2 j c8 c7
           cases e2
           have q3 := eq_true c7
           have q4 := eq_true c8
           clear c7 c8
           generalize hs2 : rdOf ByteArray.empty ts j = t at hx2 H
           clear hs2
           replace H := iO H; obtain ⟨c9, H⟩ | ⟨c9, H⟩ := H
           ·have G9 := aM c9
            clear c9
            have H' := aM H
            clear H
            go_wp2_with (at_mapUpdate; refine MapB.upd_ HM.out (Nat.lt_of_lt_of_le G9.out.2 (by decide)) G9.out.1 rfl (.tmp 34) _ _ rfl rfl rfl rfl ?_; intro w5 hM hg5; have m0 := aM hM; have m1 := aM (Kd.R_grown2 ST.out rfl hg5 (fun k hk => by cases hk; intro e; obtain ⟨cells, hc⟩ := Kd.R_typed ST.out _ e.symm; exact MapB.M_apart HM.out hc rfl)); have m2 := aM (HB.out.grown hg5 HB.out.size (fun k hk => by cases hk; exact HBK.out)); clear HM ST HB hM hg5; have HM := m0; have ST := m1; have HB := m2; clear m0 m1 m2)
            go_roundg k2
            case measure => have := HK1.out; have := HK2.out; omega
            case rel => exact ⟨_, c + 1, wrap64 (j + 1), rfl, H', ⟨by have := HK1.out; have := HK2.out; omega⟩, ST, HM, HB⟩
           ·cases H
          ·cases H
         ·have c7b0 := decide_eq_false c7
          clear c7
          have H' := aM H
          clear H
          go_wp2
          go_roundg k2
          case measure => have := HK1.out; have := HK2.out; omega
          case rel => exact ⟨f, c, _, wrap64 (i + 1), rfl, rfl, H', ⟨by have := HK1.out; have := HK2.out; omega⟩, HM, HB⟩
     ·cases H
    ·cases H
   ·have c5b0 := decide_eq_false c5
    clear c5
    obtain rfl := Option.some.inj H
    go_wp2
    go_ret
    exact ⟨rfl, HB.out⟩

end Go.Proofs.YtbmbehkdidlolaaGreatDoor.PT
