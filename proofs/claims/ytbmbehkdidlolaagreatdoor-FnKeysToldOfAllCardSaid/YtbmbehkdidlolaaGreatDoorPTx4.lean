-- written by a program of this session's (wip/tools), over the kit's print
import Derived.Test.YtbmbehkdidlolaaGreatDoorPTx0
import Derived.Test.YtbmbehkdidlolaaGreatDoorPTx3
-- squeezed
-- squeezed twice
namespace Go.Proofs.YtbmbehkdidlolaaGreatDoor.PT
open Go.RowKit Go.Proofs.YtbmbehkdidlolaaGreatDoorW.PrintWords Go.Proofs.YtbmbehkdidlolaaGreatDoorW.PrintLast Go.Proofs.YtbmbehkdidlolaaGreatDoorW.PrintMore
attribute [local go_sem] max2_int min2_int max_two min_two max_three min_three max_four min_four   -- for this text's walks alone
set_option linter.unusedVariables false
set_option linter.unusedSimpArgs false

/-! ### spec_keGood: function 35 -/
mutual
def spec_keGood.l0 : Nat → List ByteArray → List ByteArray → Int → Int → Option (Bool)
 | 0, _, _, _, _ => none
 | k + 1, x0, x10, x11, x12 => if x12 < x11 then (if 0 ≤ x12 then (if x12 < (x10.length : Int) then (if ((rdOf ByteArray.empty x10 x12).size : Int) = (x0.length : Int) then (if x12 < ((rdOf ByteArray.empty x10 x12).size : Int) then (spec_keGood.j1 k x0 (rdOf ByteArray.empty x10 x12) x10 x11 x12 ((bt (rdOf ByteArray.empty x10 x12) x12) != 63)) else (none)) else (spec_keGood.j1 k x0 (rdOf ByteArray.empty x10 x12) x10 x11 x12 true)) else (none)) else (none)) else (some true)
def spec_keGood.j1 : Nat → List ByteArray → ByteArray → List ByteArray → Int → Int → Bool → Option (Bool)
 | 0, _, _, _, _, _, _ => none
 | k + 1, x0, x4, x10, x11, x12, x27 => if x27 = true then (some false) else (spec_keGood.l1 k x0 x4 0 x10 x11 x12)
def spec_keGood.l1 : Nat → List ByteArray → ByteArray → Int → List ByteArray → Int → Int → Option (Bool)
 | 0, _, _, _, _, _, _ => none
 | k + 1, x0, x4, x5, x10, x11, x12 => if x5 < (x4.size : Int) then (if 0 ≤ x5 then (if (bt x4 x5) = 63 then (spec_keGood.l1 k x0 x4 (wrap64 (x5 + 1)) x10 x11 x12) else (if (bt x4 x5) = 48 then (spec_keGood.l1 k x0 x4 (wrap64 (x5 + 1)) x10 x11 x12) else (if (bt x4 x5) = 49 then (spec_keGood.l1 k x0 x4 (wrap64 (x5 + 1)) x10 x11 x12) else (some false)))) else (none)) else (spec_keGood.l0 k x0 x10 x11 (wrap64 (x12 + 1)))
end
def spec_keGood.f (k : Nat) (l0 : List ByteArray) : Option (Bool) := (spec_l1In.f (l0.length : Int) 1 10).bind fun t164 => (if t164 = true then (spec_keGood.l0 k l0 l0 (l0.length : Int) 0) else (some false))
theorem spec_keGood.mono_l : ∀ k, (∀ y0 y1 y2 y3, LeO (spec_keGood.l0 k y0 y1 y2 y3) (spec_keGood.l0 (k + 1) y0 y1 y2 y3)) ∧ (∀ y0 y1 y2 y3 y4 y5, LeO (spec_keGood.j1 k y0 y1 y2 y3 y4 y5) (spec_keGood.j1 (k + 1) y0 y1 y2 y3 y4 y5)) ∧ (∀ y0 y1 y2 y3 y4 y5, LeO (spec_keGood.l1 k y0 y1 y2 y3 y4 y5) (spec_keGood.l1 (k + 1) y0 y1 y2 y3 y4 y5))
 | 0 => ⟨fun _ _ _ _ r h => by simp [spec_keGood.l0] at h, fun _ _ _ _ _ _ r h => by simp [spec_keGood.j1] at h, fun _ _ _ _ _ _ r h => by simp [spec_keGood.l1] at h⟩
 | k + 1 => by
  obtain ⟨ih0, ih1, ih2⟩ := spec_keGood.mono_l k
  refine ⟨?_, ?_, ?_⟩
  ·intro y0 y1 y2 y3
   unfold spec_keGood.l0
   with_reducible repeat' first | exact ih0 _ _ _ _ | exact ih1 _ _ _ _ _ _ | exact ih2 _ _ _ _ _ _ | exact LeO.refl _ | exact LeO.none _ | refine LeO.ite ?_ ?_ | refine LeO.bind ?_ (fun _ => ?_)
  ·intro y0 y1 y2 y3 y4 y5
   unfold spec_keGood.j1
   with_reducible repeat' first | exact ih0 _ _ _ _ | exact ih1 _ _ _ _ _ _ | exact ih2 _ _ _ _ _ _ | exact LeO.refl _ | exact LeO.none _ | refine LeO.ite ?_ ?_ | refine LeO.bind ?_ (fun _ => ?_)
  ·intro y0 y1 y2 y3 y4 y5
   unfold spec_keGood.l1
   with_reducible repeat' first | exact ih0 _ _ _ _ | exact ih1 _ _ _ _ _ _ | exact ih2 _ _ _ _ _ _ | exact LeO.refl _ | exact LeO.none _ | refine LeO.ite ?_ ?_ | refine LeO.bind ?_ (fun _ => ?_)
theorem spec_keGood.mono : ∀ a0 k, LeO (spec_keGood.f k a0) (spec_keGood.f (k + 1) a0) := by
 intro a0 k
 obtain ⟨ih0, ih1, ih2⟩ := spec_keGood.mono_l k
 unfold spec_keGood.f
 with_reducible repeat' first | exact ih0 _ _ _ _ | exact ih1 _ _ _ _ _ _ | exact ih2 _ _ _ _ _ _ | exact LeO.refl _ | exact LeO.none _ | refine LeO.ite ?_ ?_ | refine LeO.bind ?_ (fun _ => ?_)
set_option maxHeartbeats 8000000 in
set_option maxRecDepth 100000 in
theorem spec_keGood.calls (k : Nat) (A0 : Option Addr) (c0 : Nat) (l0 : List ByteArray) (r : Bool) (w : World) (hr0 : Kd.C Kd.string w A0 l0.length l0) (hc0 : l0.length ≤ c0) (h : spec_keGood.f k l0 = some r) :
  Calls Tryz.prog 35 #[.slice A0 l0.length c0] w fun e w' => e = .returned (.bool r) ∧ Drawn0 w w' := by
 have HR0 := aM hr0
 have HC0 := aM hc0
 clear hr0 hc0
 have H := h; clear h; unfold spec_keGood.f at H
 replace H := jS H; obtain ⟨t164, A2, H⟩ := H
 by_cases c3 : t164 = true
 ·subst c3
  replace H := jT H
  have H' := aM H
  clear H
  go_enter Tryz.func35, Tryz.ntmps35
  go_wp2_with (first | ((with_reducible refine gC 69 rfl ?_); refine gL (some 8) Tryz.func69 #[.int .i64 (l0.length : Int), .int .i64 1, .int .i64 10] ?_; (with_reducible refine (spec_l1In.calls (l0.length : Int) 1 10 true _ A2.out).mono ?_); rintro e w' ⟨rfl, ⟨nd, rfl⟩⟩; refine ⟨_, rfl, ?_⟩))
  go_loopg [12] k (fun kq v12 w' => ∃ (x12_1 : Int), v12 = .int .i64 x12_1 ∧ Aside0 (spec_keGood.l0 kq l0 l0 (l0.length : Int) x12_1 = some r) ∧ Aside0 (kq ≤ k) ∧ Drawn0 w w')
  case atStart => exact ⟨(0), rfl, H', ⟨Nat.le_refl _⟩, by repeat (first | exact Drawn0.refl _ | apply Drawn0.step)⟩
  case round =>
   clear H'
   obtain ⟨x12_1, rfl, HA, HK1, ⟨m1, rfl⟩⟩ := hrel
   cases gk with
   | zero => exact absurd HA.out (by simp [spec_keGood.l0])
   | succ k1 =>
    have H := HA.out
    clear HA
    simp only [spec_keGood.l0] at H
    replace H := iO H; obtain ⟨c4, H⟩ | ⟨c4, H⟩ := H
    ·have c4b0 := decide_eq_true c4
     clear c4
     replace H := iC H; obtain ⟨c5, H⟩ := H
     have c5b0 := decide_eq_true c5
     clear c5
     replace H := iC H; obtain ⟨c6, H⟩ := H
     have c6b0 := decide_eq_true c6
     clear c6
     have HC7 := aM H
     clear H; obtain ⟨ad165, e165, hx165_0, p165, q165⟩ := aZ (Kd.at_string HR0.out x12_1); cases e165
     go_upto_region 6 with (fail)
     go_cut [27] (fun v27 wc => ∃ (kq : Nat) (x27_6 : Bool), v27 = .bool x27_6 ∧ Aside0 (spec_keGood.j1 kq l0 (rdOf ByteArray.empty l0 x12_1) l0 (l0.length : Int) x12_1 x27_6 = some r) ∧ Aside0 (kq ≤ k1) ∧ Drawn0 w wc)
     case first =>
      have H := HC7.out
      clear HC7
      replace H := iO H; obtain ⟨c8, H⟩ | ⟨c8, H⟩ := H
      ·have c8b0 : (((rdOf ByteArray.empty l0 x12_1).size : Int) == (l0.length : Int)) = true := beq_iff_eq.mpr c8
       have c8b1 : (((rdOf ByteArray.empty l0 x12_1).size : Int) != (l0.length : Int)) = false := bne_eq_false_iff_eq.mpr c8
       have c8b2 : ((rdOf ByteArray.empty l0 x12_1).size == l0.length) = true := by first | simpa using c8 | (simp at c8 ⊢; omega)
       clear c8
       (first | rw [c8b0] | (simp only [i64_w, i32_w]; rw [c8b0]) | skip)
       replace H := iN H; obtain ⟨c9b0, H⟩ := H
       have H' := aM H
       clear H; have p10 : 0 ≤ (x12_1 : Int) := oD; have q10 : x12_1 < ((rdOf ByteArray.empty l0 x12_1).size : Int) := oD
       have hx10 := bt_at (rdOf ByteArray.empty l0 x12_1) x12_1
       replace p10 := eq_true p10; replace q10 := eq_true q10
       go_wp2
       go_meet
       case rel => exact ⟨_, (((bt (rdOf ByteArray.empty l0 x12_1) x12_1) != 63)), rfl, H', ⟨by have := HK1.out; first | omega | exact Nat.le_refl _⟩, by repeat (first | exact Drawn0.refl _ | apply Drawn0.step)⟩
      ·have c8b0 : (((rdOf ByteArray.empty l0 x12_1).size : Int) == (l0.length : Int)) = false := beq_eq_false_iff_ne.mpr c8
       have c8b1 : (((rdOf ByteArray.empty l0 x12_1).size : Int) != (l0.length : Int)) = true := bne_iff_ne.mpr c8
       have c8b2 : ((rdOf ByteArray.empty l0 x12_1).size == l0.length) = false := by first | simpa using c8 | (simp at c8 ⊢; omega)
       (first | rw [c8b0] | (simp only [i64_w, i32_w]; rw [c8b0]) | skip)
       have H' := aM H
       clear H
       go_wp2
       go_meet
       case rel => exact ⟨_, (true), rfl, H', ⟨by have := HK1.out; first | omega | exact Nat.le_refl _⟩, by repeat (first | exact Drawn0.refl _ | apply Drawn0.step)⟩
     case rest =>
      clear HC7; clear c4b0 c5b0 c6b0 hx165_0 p165 q165
      obtain ⟨kq, x27_6, rfl, HA, HJ6, ⟨mc6, rfl⟩⟩ := hcut
      cases kq with
      | zero => exact absurd HA.out (by simp [spec_keGood.j1])
      | succ kj6 =>
       have H := HA.out
       clear HA
       simp only [spec_keGood.j1] at H
       by_cases c11 : x27_6 = true
       ·subst c11
        replace H := jT H
        obtain rfl := Option.some.inj H
        go_wp2
        go_ret
        exact ⟨rfl, by repeat (first | exact Drawn0.refl _ | apply Drawn0.step)⟩
       ·replace c11 := Bool.eq_false_iff.mpr c11
        subst c11
        replace H := jF H
        have H' := aM H
        clear H
        go_wp2
        go_loopg [5] kj6 (fun kq v5 w' => ∃ (x5_3 : Int), v5 = .int .i64 x5_3 ∧ Aside0 (spec_keGood.l1 kq l0 (rdOf ByteArray.empty l0 x12_1) x5_3 l0 (l0.length : Int) x12_1 = some r) ∧ Aside0 (kq ≤ kj6) ∧ Drawn0 w w')
        case atStart => exact ⟨(0), rfl, H', ⟨Nat.le_refl _⟩, by repeat (first | exact Drawn0.refl _ | apply Drawn0.step)⟩
        case round =>
         clear H'
         obtain ⟨x5_3, rfl, HA, HK3, ⟨m3, rfl⟩⟩ := hrel
         cases gk with
         | zero => exact absurd HA.out (by simp [spec_keGood.l1])
         | succ k3 =>
          have H := HA.out
          clear HA
          simp only [spec_keGood.l1] at H
          replace H := iO H; obtain ⟨c12, H⟩ | ⟨c12, H⟩ := H
          ·have c12b0 := decide_eq_true c12
           clear c12
           replace H := iC H; obtain ⟨c13, H⟩ := H
           have c13b0 := decide_eq_true c13
           clear c13
           replace H := iO H; obtain ⟨c15, H⟩ | ⟨c15, H⟩ := H
           ·have c15b0 : ((bt (rdOf ByteArray.empty l0 x12_1) x5_3) == 63) = true := beq_iff_eq.mpr c15
            have c15b1 : ((bt (rdOf ByteArray.empty l0 x12_1) x5_3) != 63) = false := bne_eq_false_iff_eq.mpr c15
            clear c15
            have H' := aM H
            clear H; have p14 : 0 ≤ (x5_3 : Int) := oD; have q14 : x5_3 < ((rdOf ByteArray.empty l0 x12_1).size : Int) := oD
            have hx14 := bt_at (rdOf ByteArray.empty l0 x12_1) x5_3
            replace p14 := eq_true p14; replace q14 := eq_true q14
            go_wp2
            go_roundg k3
            case measure => have := HK1.out; have := HJ6.out; have := HK3.out; omega
            case rel => exact ⟨(wrap64 (x5_3 + 1)), rfl, H', ⟨by have := HK1.out; have := HJ6.out; have := HK3.out; omega⟩, by repeat (first | exact Drawn0.refl _ | apply Drawn0.step)⟩
           ·have c15b0 : ((bt (rdOf ByteArray.empty l0 x12_1) x5_3) == 63) = false := beq_eq_false_iff_ne.mpr c15
            have c15b1 : ((bt (rdOf ByteArray.empty l0 x12_1) x5_3) != 63) = true := bne_iff_ne.mpr c15
            replace H := iO H; obtain ⟨c17, H⟩ | ⟨c17, H⟩ := H
            ·have c17b0 : ((bt (rdOf ByteArray.empty l0 x12_1) x5_3) == 48) = true := beq_iff_eq.mpr c17
             have c17b1 : ((bt (rdOf ByteArray.empty l0 x12_1) x5_3) != 48) = false := bne_eq_false_iff_eq.mpr c17
             clear c17
             have H' := aM H
             clear H; have p14 : 0 ≤ (x5_3 : Int) := oD; have q14 : x5_3 < ((rdOf ByteArray.empty l0 x12_1).size : Int) := oD
             have hx14 := bt_at (rdOf ByteArray.empty l0 x12_1) x5_3
             replace p14 := eq_true p14; replace q14 := eq_true q14; have p16 : 0 ≤ (x5_3 : Int) := oD; have q16 : x5_3 < ((rdOf ByteArray.empty l0 x12_1).size : Int) := oD
             have hx16 := bt_at (rdOf ByteArray.empty l0 x12_1) x5_3
             replace p16 := eq_true p16; replace q16 := eq_true q16
             go_wp2
             go_roundg k3
             case measure => have := HK1.out; have := HJ6.out; have := HK3.out; omega
             case rel => exact ⟨(wrap64 (x5_3 + 1)), rfl, H', ⟨by have := HK1.out; have := HJ6.out; have := HK3.out; omega⟩, by repeat (first | exact Drawn0.refl _ | apply Drawn0.step)⟩
            ·have c17b0 : ((bt (rdOf ByteArray.empty l0 x12_1) x5_3) == 48) = false := beq_eq_false_iff_ne.mpr c17
             have c17b1 : ((bt (rdOf ByteArray.empty l0 x12_1) x5_3) != 48) = true := bne_iff_ne.mpr c17
             replace H := iO H; obtain ⟨c19, H⟩ | ⟨c19, H⟩ := H
             ·have c19b0 : ((bt (rdOf ByteArray.empty l0 x12_1) x5_3) == 49) = true := beq_iff_eq.mpr c19
              have c19b1 : ((bt (rdOf ByteArray.empty l0 x12_1) x5_3) != 49) = false := bne_eq_false_iff_eq.mpr c19
              clear c19
              have H' := aM H
              clear H; have p14 : 0 ≤ (x5_3 : Int) := oD; have q14 : x5_3 < ((rdOf ByteArray.empty l0 x12_1).size : Int) := oD
              have hx14 := bt_at (rdOf ByteArray.empty l0 x12_1) x5_3
              replace p14 := eq_true p14; replace q14 := eq_true q14; have p16 : 0 ≤ (x5_3 : Int) := oD; have q16 : x5_3 < ((rdOf ByteArray.empty l0 x12_1).size : Int) := oD
              have hx16 := bt_at (rdOf ByteArray.empty l0 x12_1) x5_3
              replace p16 := eq_true p16; replace q16 := eq_true q16; have p18 : 0 ≤ (x5_3 : Int) := oD; have q18 : x5_3 < ((rdOf ByteArray.empty l0 x12_1).size : Int) := oD
              have hx18 := bt_at (rdOf ByteArray.empty l0 x12_1) x5_3
              replace p18 := eq_true p18; replace q18 := eq_true q18
              go_wp2
              go_roundg k3
              case measure => have := HK1.out; have := HJ6.out; have := HK3.out; omega
              case rel => exact ⟨(wrap64 (x5_3 + 1)), rfl, H', ⟨by have := HK1.out; have := HJ6.out; have := HK3.out; omega⟩, by repeat (first | exact Drawn0.refl _ | apply Drawn0.step)⟩
             ·have c19b0 : ((bt (rdOf ByteArray.empty l0 x12_1) x5_3) == 49) = false := beq_eq_false_iff_ne.mpr c19
              have c19b1 : ((bt (rdOf ByteArray.empty l0 x12_1) x5_3) != 49) = true := bne_iff_ne.mpr c19
              obtain rfl := Option.some.inj H
              have p14 : 0 ≤ (x5_3 : Int) := oD; have q14 : x5_3 < ((rdOf ByteArray.empty l0 x12_1).size : Int) := oD
              have hx14 := bt_at (rdOf ByteArray.empty l0 x12_1) x5_3
              replace p14 := eq_true p14; replace q14 := eq_true q14; have p16 : 0 ≤ (x5_3 : Int) := oD; have q16 : x5_3 < ((rdOf ByteArray.empty l0 x12_1).size : Int) := oD
              have hx16 := bt_at (rdOf ByteArray.empty l0 x12_1) x5_3
              replace p16 := eq_true p16; replace q16 := eq_true q16; have p18 : 0 ≤ (x5_3 : Int) := oD; have q18 : x5_3 < ((rdOf ByteArray.empty l0 x12_1).size : Int) := oD
              have hx18 := bt_at (rdOf ByteArray.empty l0 x12_1) x5_3
              replace p18 := eq_true p18; replace q18 := eq_true q18
              go_wp2
              go_ret
              exact ⟨rfl, by repeat (first | exact Drawn0.refl _ | apply Drawn0.step)⟩
          ·have c12b0 := decide_eq_false c12
           clear c12
           have H' := aM H
           clear H
           go_wp2
           go_roundg k3
           case measure => have := HK1.out; have := HJ6.out; have := HK3.out; omega
           case rel => exact ⟨(wrap64 (x12_1 + 1)), rfl, H', ⟨by have := HK1.out; have := HJ6.out; have := HK3.out; omega⟩, by repeat (first | exact Drawn0.refl _ | apply Drawn0.step)⟩
    ·have c4b0 := decide_eq_false c4
     clear c4
     obtain rfl := Option.some.inj H
     go_wp2
     go_ret
     exact ⟨rfl, by repeat (first | exact Drawn0.refl _ | apply Drawn0.step)⟩
 ·replace c3 := Bool.eq_false_iff.mpr c3
  subst c3
  replace H := jF H
  obtain rfl := Option.some.inj H
  go_enter Tryz.func35, Tryz.ntmps35
  go_wp2_with (first | ((with_reducible refine gC 69 rfl ?_); refine gL (some 8) Tryz.func69 #[.int .i64 (l0.length : Int), .int .i64 1, .int .i64 10] ?_; (with_reducible refine (spec_l1In.calls (l0.length : Int) 1 10 false _ A2.out).mono ?_); rintro e w' ⟨rfl, ⟨nd, rfl⟩⟩; refine ⟨_, rfl, ?_⟩))
  go_ret
  exact ⟨rfl, by repeat (first | exact Drawn0.refl _ | apply Drawn0.step)⟩

/-! ### spec_riNumber: function 70 -/
def spec_riNumber.l0 : Nat → ByteArray → Int → Int → Int → Option (Int)
 | 0, _, _, _, _ => none
 | k + 1, x0, x3, x4, x5 => if x5 ≥ 0 then (if 0 ≤ x5 then (if x5 < (x0.size : Int) then (if (bt x0 x5) = 49 then (spec_riNumber.l0 k x0 (wrap64 ((wrap64 (2 * x3)) + (wrap64 (1 - x4)))) (wrap64 (1 - x4)) (wrap64 (x5 - 1))) else (spec_riNumber.l0 k x0 (wrap64 ((wrap64 (2 * x3)) + x4)) x4 (wrap64 (x5 - 1)))) else (none)) else (none)) else (some x3)
def spec_riNumber.f (k : Nat) (a0 : ByteArray) : Option (Int) := spec_riNumber.l0 k a0 0 0 (wrap64 ((a0.size : Int) - 1))
theorem spec_riNumber.mono_l : ∀ k, (∀ y0 y1 y2 y3, LeO (spec_riNumber.l0 k y0 y1 y2 y3) (spec_riNumber.l0 (k + 1) y0 y1 y2 y3))
 | 0 => fun _ _ _ _ r h => by simp [spec_riNumber.l0] at h
 | k + 1 => by
  have ih0 := spec_riNumber.mono_l k
  ·intro y0 y1 y2 y3
   unfold spec_riNumber.l0
   with_reducible repeat' first | exact ih0 _ _ _ _ | exact LeO.refl _ | exact LeO.none _ | refine LeO.ite ?_ ?_ | refine LeO.bind ?_ (fun _ => ?_)
theorem spec_riNumber.mono : ∀ a0 k, LeO (spec_riNumber.f k a0) (spec_riNumber.f (k + 1) a0) := by
 intro a0 k
 have ih0 := spec_riNumber.mono_l k
 unfold spec_riNumber.f
 with_reducible repeat' first | exact ih0 _ _ _ _ | exact LeO.refl _ | exact LeO.none _ | refine LeO.ite ?_ ?_ | refine LeO.bind ?_ (fun _ => ?_)
set_option maxHeartbeats 8000000 in
set_option maxRecDepth 100000 in
theorem spec_riNumber.calls (k : Nat) (a0 : ByteArray) (r : Int) (w : World) (h : spec_riNumber.f k a0 = some r) :
  Calls Tryz.prog 70 #[.string a0] w fun e w' => e = .returned (.int .i64 r) ∧ Drawn0 w w' := by
 have H := h; clear h; unfold spec_riNumber.f at H
 have H' := aM H
 clear H
 go_enter Tryz.func70, Tryz.ntmps70
 go_wp2
 go_loopg [3, 4, 5] k (fun kq v3 v4 v5 w' => ∃ (x3_1 : Int) (x4_1 : Int) (x5_1 : Int), v3 = .int .i64 x3_1 ∧ v4 = .int .i64 x4_1 ∧ v5 = .int .i64 x5_1 ∧ Aside0 (spec_riNumber.l0 kq a0 x3_1 x4_1 x5_1 = some r) ∧ Aside0 (kq ≤ k) ∧ Drawn0 w w')
 case atStart => exact ⟨(0), (0), (wrap64 ((a0.size : Int) - 1)), rfl, rfl, rfl, H', ⟨Nat.le_refl _⟩, by repeat (first | exact Drawn0.refl _ | apply Drawn0.step)⟩
 case round =>
  clear H'
  obtain ⟨x3_1, x4_1, x5_1, rfl, rfl, rfl, HA, HK1, ⟨m1, rfl⟩⟩ := hrel
  cases gk with
  | zero => exact absurd HA.out (by simp [spec_riNumber.l0])
  | succ k1 =>
   have H := HA.out
   clear HA
   simp only [spec_riNumber.l0] at H
   replace H := iO H; obtain ⟨c2, H⟩ | ⟨c2, H⟩ := H
   ·have c2b0 := decide_eq_true c2
    clear c2
    replace H := iC H; obtain ⟨c3, H⟩ := H
    have c3b0 := decide_eq_true c3
    clear c3
    replace H := iC H; obtain ⟨c4, H⟩ := H
    have c4b0 := decide_eq_true c4
    clear c4
    replace H := iO H; obtain ⟨c6, H⟩ | ⟨c6, H⟩ := H
    ·have c6b0 : ((bt a0 x5_1) == 49) = true := beq_iff_eq.mpr c6
     have c6b1 : ((bt a0 x5_1) != 49) = false := bne_eq_false_iff_eq.mpr c6
     clear c6
     have H' := aM H
     clear H; have p5 : 0 ≤ (x5_1 : Int) := oD; have q5 : x5_1 < (a0.size : Int) := oD
     have hx5 := bt_at a0 x5_1
     replace p5 := eq_true p5; replace q5 := eq_true q5
     go_wp2
     go_roundg k1
     case measure => have := HK1.out; omega
     case rel => exact ⟨(wrap64 ((wrap64 (2 * x3_1)) + (wrap64 (1 - x4_1)))), (wrap64 (1 - x4_1)), (wrap64 (x5_1 - 1)), rfl, rfl, rfl, H', ⟨by have := HK1.out; omega⟩, by repeat (first | exact Drawn0.refl _ | apply Drawn0.step)⟩
    ·have c6b0 : ((bt a0 x5_1) == 49) = false := beq_eq_false_iff_ne.mpr c6
     have c6b1 : ((bt a0 x5_1) != 49) = true := bne_iff_ne.mpr c6
     have H' := aM H
     clear H; have p5 : 0 ≤ (x5_1 : Int) := oD; have q5 : x5_1 < (a0.size : Int) := oD
     have hx5 := bt_at a0 x5_1
     replace p5 := eq_true p5; replace q5 := eq_true q5
     go_wp2
     go_roundg k1
     case measure => have := HK1.out; omega
     case rel => exact ⟨(wrap64 ((wrap64 (2 * x3_1)) + x4_1)), (x4_1), (wrap64 (x5_1 - 1)), rfl, rfl, rfl, H', ⟨by have := HK1.out; omega⟩, by repeat (first | exact Drawn0.refl _ | apply Drawn0.step)⟩
   ·have c2b0 := decide_eq_false c2
    clear c2
    obtain rfl := Option.some.inj H
    go_wp2
    go_ret
    exact ⟨rfl, by repeat (first | exact Drawn0.refl _ | apply Drawn0.step)⟩

/-! ### spec_keFits: function 93 (told by hand) -/
/-- spec.keFits ranges over a string; at strings of ASCII bytes. -/
def spec_keFits.l0 : Nat → ByteArray → ByteArray → Nat → Option Bool
 | 0, _, _, _ => none
 | k + 1, s, t, i => if i < s.size then (if (s.data.toList.getD i 0).toNat < 128 then (if bt s (i : Int) = 63 then spec_keFits.l0 k s t (i + 1) else (if i < t.size then (if bt s (i : Int) = bt t (i : Int) then spec_keFits.l0 k s t (i + 1) else some false) else none)) else none) else some true
def spec_keFits.f (k : Nat) (a0 a1 : ByteArray) : Option Bool := if a0.size ≤ 4611686018427387904 then spec_keFits.l0 k a0 a1 0 else none
theorem spec_keFits.mono_l : ∀ k y0 y1 y2, LeO (spec_keFits.l0 k y0 y1 y2) (spec_keFits.l0 (k + 1) y0 y1 y2)
 | 0, _, _, _ => fun r h => by simp [spec_keFits.l0] at h
 | k + 1, y0, y1, y2 => by
  have ih := spec_keFits.mono_l k
  unfold spec_keFits.l0
  exact LeO.ite (LeO.ite (LeO.ite (ih _ _ _) (LeO.ite (LeO.ite (ih _ _ _) (LeO.refl _)) (LeO.none _))) (LeO.none _)) (LeO.refl _)
theorem spec_keFits.mono : ∀ a0 a1 k, LeO (spec_keFits.f k a0 a1) (spec_keFits.f (k + 1) a0 a1) := by
 intro a0 a1 k
 unfold spec_keFits.f
 exact LeO.ite (spec_keFits.mono_l k _ _ _) (LeO.refl _)
set_option maxHeartbeats 8000000 in
set_option maxRecDepth 100000 in
theorem spec_keFits.calls (k : Nat) (a0 : ByteArray) (a1 : ByteArray) (r : Bool) (w : World) (h : spec_keFits.f k a0 a1 = some r) :
  Calls Tryz.prog 93 #[.string a0, .string a1] w fun e w' => e = .returned (.bool r) ∧ Below w.heap.size w w' := by
 unfold spec_keFits.f at h
 by_cases c0 : ¬ (a0.size ≤ 4611686018427387904)
 ·rw [if_neg c0] at h; exact absurd h (by simp)
 replace c0 := Decidable.not_not.mp c0
 rw [if_pos c0] at h
 have H' := aM h
 clear h
 have C0 := aM c0
 clear c0
 have hb0 := aM (show Below w.heap.size w (w.iter a0 0) from (Below.refl _ w).alloc (Nat.le_refl _) _)
 have hi0 := aM (World.iter_heap w a0 0)
 go_enter Tryz.func93, Tryz.ntmps93
 go_wp2
 go_loopg [] k (fun kq w' => ∃ (i : Nat), Aside0 (spec_keFits.l0 kq a0 a1 i = some r) ∧ Aside0 (kq ≤ k) ∧ Aside0 (w'.heap[w.heap.size]? = some (.stringIter a0 i)) ∧ Aside0 (Below w.heap.size w w'))
 case atStart => exact ⟨0, H', ⟨Nat.le_refl _⟩, hi0, hb0⟩
 case round =>
  clear H' hb0 hi0
  obtain ⟨i, HA, HK1, HI, HB⟩ := hrel
  rename World => wr
  cases gk with
  | zero => exact absurd HA.out (by simp [spec_keFits.l0])
  | succ k1 =>
   have H := HA.out
   clear HA
   simp only [spec_keFits.l0] at H
   replace H := iO H; obtain ⟨c1, H⟩ | ⟨c1, H⟩ := H
   ·replace H := iC H; obtain ⟨c2, H⟩ := H
    have h128 : (a0[i]'c1).toNat < 128 := by
     have e : a0.data.toList.getD i 0 = a0[i]'c1 := by
      have hl : i < a0.data.toList.length := by rw [Array.length_toList]; exact c1
      simp [List.getD, List.getElem?_eq_getElem hl]
      rfl
     rw [← e]; exact c2
    have hnext : ∀ ty, (Instr.next (.pointer (some ⟨w.heap.size, 0, none⟩)) true ty).run Tryz.prog wr = _ := fun ty => Lib.run_next_ascii_at wr w.heap.size a0 i ty HI.out c1 h128
    have hk1 := Lib.iterAt_heap wr w.heap.size a0 i (i + 1) HI.out
    have hnx1 : Below w.heap.size w (wr.iterAt w.heap.size a0 (i + 1)) := Lib.below_iterAt HB.out (Nat.le_refl _) a0 (i + 1)
    generalize wr.iterAt w.heap.size a0 (i + 1) = W1 at hnext hk1 hnx1
    clear HI HB
    have HI := aM hk1
    have HB := aM hnx1
    clear hk1 hnx1
    have hx6 : ∀ h : i < a0.size, ((a0[i]'h).toNat : Int) = bt a0 (i : Int) := fun h => bt_at a0 (i : Int) h
    have p6 : (0 ≤ (i : Int)) = True := eq_true (Int.natCast_nonneg i)
    have q6 : ((i : Int) < (a0.size : Int)) = True := eq_true (Int.ofNat_lt.2 c1)
    have q7 : (i < a0.size) = True := eq_true c1
    replace H := iO H; obtain ⟨c7, H⟩ | ⟨c7, H⟩ := H
    ·have c7b0 : (bt a0 (i : Int) == 63) = true := beq_iff_eq.mpr c7
     have c7b1 : (bt a0 (i : Int) != 63) = false := bne_eq_false_iff_eq.mpr c7
     clear c7
     have H' := aM H
     clear H
     go_wp2
     repeat (go_quiet (fail); try go_wp2)
     go_roundg k1
     case measure => have := HK1.out; omega
     case rel => exact ⟨i + 1, H', ⟨by have := HK1.out; omega⟩, ⟨by first | exact HI.out | exact blk_drew HI.out⟩, ⟨by repeat (first | exact HB.out | apply pw_below_drewN | apply below_drew1)⟩⟩
    ·have c7b0 : (bt a0 (i : Int) == 63) = false := beq_eq_false_iff_ne.mpr c7
     have c7b1 : (bt a0 (i : Int) != 63) = true := bne_iff_ne.mpr c7
     clear c7
     replace H := iC H; obtain ⟨c9, H⟩ := H
     have hx8 : ∀ h : i < a1.size, ((a1[i]'h).toNat : Int) = bt a1 (i : Int) := fun h => bt_at a1 (i : Int) h
     have q8 : ((i : Int) < (a1.size : Int)) = True := eq_true (Int.ofNat_lt.2 c9)
     have q9 : (i < a1.size) = True := eq_true c9
     clear c9
     replace H := iO H; obtain ⟨c11, H⟩ | ⟨c11, H⟩ := H
     ·have c11b0 : (bt a0 (i : Int) == bt a1 (i : Int)) = true := beq_iff_eq.mpr c11
      have c11b1 : (bt a0 (i : Int) != bt a1 (i : Int)) = false := bne_eq_false_iff_eq.mpr c11
      clear c11
      have H' := aM H
      clear H
      go_wp2
      repeat (go_quiet (fail); try go_wp2)
      go_roundg k1
      case measure => have := HK1.out; omega
      case rel => exact ⟨i + 1, H', ⟨by have := HK1.out; omega⟩, ⟨by first | exact HI.out | exact blk_drew HI.out⟩, ⟨by repeat (first | exact HB.out | apply pw_below_drewN | apply below_drew1)⟩⟩
     ·have c11b0 : (bt a0 (i : Int) == bt a1 (i : Int)) = false := beq_eq_false_iff_ne.mpr c11
      have c11b1 : (bt a0 (i : Int) != bt a1 (i : Int)) = true := bne_iff_ne.mpr c11
      clear c11
      obtain rfl := Option.some.inj H
      clear H
      go_wp2
      repeat (go_quiet (fail); try go_wp2)
      go_ret
      exact ⟨rfl, by repeat (first | exact HB.out | apply pw_below_drewN | apply below_drew1)⟩
   ·have hnext : ∀ ty, (Instr.next (.pointer (some ⟨w.heap.size, 0, none⟩)) true ty).run Tryz.prog wr = _ := fun ty => Lib.run_next_end_at wr w.heap.size a0 i ty HI.out c1
    obtain rfl := Option.some.inj H
    clear H
    go_wp2
    go_ret
    exact ⟨rfl, HB.out⟩

/-! ### spec_keMoves: function 71 -/
def spec_keMoves.l0 : Nat → ByteArray → List Int → List ByteArray → Int → Int → Option (List Int)
 | 0, _, _, _, _, _ => none
 | k + 1, x1, x5, x8, x9, x10 => if x10 < x9 then (if 0 ≤ x10 then (if x10 < (x8.length : Int) then ((spec_keFits.f k (rdOf ByteArray.empty x8 x10) x1).bind fun t167 => (if t167 = true then (if x5.length < 17592186044416 then (spec_keMoves.l0 k x1 (x5 ++ [x10]) x8 x9 (wrap64 (x10 + 1))) else (none)) else (spec_keMoves.l0 k x1 x5 x8 x9 (wrap64 (x10 + 1))))) else (none)) else (none)) else (some x5)
def spec_keMoves.f (k : Nat) (l0 : List ByteArray) (a1 : ByteArray) : Option (List Int) := spec_keMoves.l0 k a1 ([] : List Int) l0 (l0.length : Int) 0
theorem spec_keMoves.mono_l : ∀ k, (∀ y0 y1 y2 y3 y4, LeO (spec_keMoves.l0 k y0 y1 y2 y3 y4) (spec_keMoves.l0 (k + 1) y0 y1 y2 y3 y4))
 | 0 => fun _ _ _ _ _ r h => by simp [spec_keMoves.l0] at h
 | k + 1 => by
  have ih0 := spec_keMoves.mono_l k
  ·intro y0 y1 y2 y3 y4
   unfold spec_keMoves.l0
   with_reducible repeat' first | exact ih0 _ _ _ _ _ | exact spec_keFits.mono _ _ _ | exact LeO.refl _ | exact LeO.none _ | refine LeO.ite ?_ ?_ | refine LeO.bind ?_ (fun _ => ?_)
theorem spec_keMoves.mono : ∀ a0 a1 k, LeO (spec_keMoves.f k a0 a1) (spec_keMoves.f (k + 1) a0 a1) := by
 intro a0 a1 k
 have ih0 := spec_keMoves.mono_l k
 unfold spec_keMoves.f
 with_reducible repeat' first | exact ih0 _ _ _ _ _ | exact spec_keFits.mono _ _ _ | exact LeO.refl _ | exact LeO.none _ | refine LeO.ite ?_ ?_ | refine LeO.bind ?_ (fun _ => ?_)
set_option maxHeartbeats 8000000 in
set_option maxRecDepth 100000 in
theorem spec_keMoves.calls (k : Nat) (A0 : Option Addr) (c0 : Nat) (l0 : List ByteArray) (a1 : ByteArray) (r : List Int) (w : World) (hr0 : Kd.C Kd.string w A0 l0.length l0) (hc0 : l0.length ≤ c0) (h : spec_keMoves.f k l0 a1 = some r) :
  Calls Tryz.prog 71 #[.slice A0 l0.length c0, .string a1] w fun e w' => ∃ v0_ : Value, e = .returned (v0_) ∧ Kd.R (Kd.int .i64) 3 w' w.heap.size (fun _ => True) v0_ r ∧ Below w.heap.size w w' := by
 have HR0 := aM hr0
 have HC0 := aM hc0
 clear hr0 hc0
 have HB := aM (Below.refl w.heap.size w)
 have H := h; clear h; unfold spec_keMoves.f at H
 have H' := aM H
 clear H
 go_enter Tryz.func71, Tryz.ntmps71
 go_wp2
 go_loopg [5, 10] k (fun kq v5 v10 w' => ∃ (x5_1 : List Int) (x10_1 : Int), v10 = .int .i64 x10_1 ∧ Aside0 (spec_keMoves.l0 kq a1 x5_1 l0 (l0.length : Int) x10_1 = some r) ∧ Aside0 (kq ≤ k) ∧ Aside0 (Kd.R (Kd.int .i64) 3 w' w.heap.size (fun _ => True) v5 x5_1) ∧ Aside0 (Below w.heap.size w w'))
 case atStart => exact ⟨(([] : List Int)), (0), rfl, H', ⟨Nat.le_refl _⟩, ⟨by first | exact Kd.R_nil _ _ _ _ _ | exact Kd.N_nil _ _ _ _ _ | exact Kd.V_nil _ _ _ _ _ | exact Kd.Q_nil _ _ _ _ _ | exact Kd.S_nil _ _ _ _ _⟩, HB⟩
 case round =>
  clear H'
  obtain ⟨x5_1, x10_1, rfl, HA, HK1, HO_5, HB⟩ := hrel
  cases gk with
  | zero => exact absurd HA.out (by simp [spec_keMoves.l0])
  | succ k1 =>
   have H := HA.out
   clear HA
   simp only [spec_keMoves.l0] at H
   replace H := iO H; obtain ⟨c3, H⟩ | ⟨c3, H⟩ := H
   ·have c3b0 := decide_eq_true c3
    clear c3
    replace H := iC H; obtain ⟨c4, H⟩ := H
    have c4b0 := decide_eq_true c4
    clear c4
    replace H := iN H; obtain ⟨c5b0, H⟩ := H
    replace H := jS H; obtain ⟨t167, A6, H⟩ := H
    by_cases c7 : t167 = true
    ·subst c7
     replace H := jT H
     replace H := iC H; obtain ⟨c8, H⟩ := H
     have LMc8 := aM c8
     clear c8
     obtain ⟨y168, Ny168, h_⟩ := yG (α := List Int) (x5_1 ++ [x10_1]); rw [← h_] at H; clear h_
     have H' := aM H
     clear H; have p166 : 0 ≤ (x10_1 : Int) := oD; have q166 : x10_1 < (l0.length : Int) := oD; obtain ⟨ad166, e166, hx166_0⟩ := Kd.at_string HR0.out x10_1 p166 q166; cases e166
     replace hx166_0 := (HB.out.cell (World.block_lt_of_cell? w _ hx166_0)).trans hx166_0
     replace p166 := eq_true p166; replace q166 := eq_true q166
     go_wp2_with (first | ((with_reducible refine gC 93 rfl ?_); refine gL (some 17) Tryz.func93 #[.string (rdOf ByteArray.empty l0 x10_1), .string a1] ?_; (with_reducible refine (spec_keFits.calls k1 (rdOf ByteArray.empty l0 x10_1) a1 true _ A6.out).mono ?_); rintro e w9 ⟨rfl, hb⟩; refine ⟨_, rfl, ?_⟩; replace HO_5 := aM (Kd.R_below HO_5.out hb); replace HB := aM (below_step HB.out hb); (try clear hb)) | ((with_reducible refine gate_builtin (b := .append) (xs := #[.tmp 18, .tmp 20]) rfl ?_); at_builtin; refine Kd.R_append (Kd.int .i64) (w0 := w) w.heap.size rfl (.tmp 18) (.tmp 20) 36 3 (.int .i64 0) 8 rfl Tryz.underlying36 info3 rfl (by decide) (by omega) u5 x5_1 x10_1 [.int .i64 x10_1] (fun _ => True) (fun _ => False) rfl rfl ?aP (fun _ hk => hk.elim) ?aF ?aO ?aB ?aS ?aL ?_; (case aP => exact rfl); (case aB => exact HB.out); (case aF => exact (fun _ _ => trivial)); (case aO => exact HO_5.out); (case aS => exact (below_size HB.out)); (case aL => have := LMc8.out; omega); intro v169 w10 ho hb hg hat; rw [← Ny168.out] at ho; replace HB := aM (hb); have HO170 := aM (ho); clear ho hb hg hat))
     go_roundg k1
     case measure => have := HK1.out; omega
     case rel => exact ⟨(y168), (wrap64 (x10_1 + 1)), rfl, H', ⟨by have := HK1.out; omega⟩, HO170, HB⟩
    ·replace c7 := Bool.eq_false_iff.mpr c7
     subst c7
     replace H := jF H
     have H' := aM H
     clear H; have p166 : 0 ≤ (x10_1 : Int) := oD; have q166 : x10_1 < (l0.length : Int) := oD; obtain ⟨ad166, e166, hx166_0⟩ := Kd.at_string HR0.out x10_1 p166 q166; cases e166
     replace hx166_0 := (HB.out.cell (World.block_lt_of_cell? w _ hx166_0)).trans hx166_0
     replace p166 := eq_true p166; replace q166 := eq_true q166
     go_wp2_with (first | ((with_reducible refine gC 93 rfl ?_); refine gL (some 17) Tryz.func93 #[.string (rdOf ByteArray.empty l0 x10_1), .string a1] ?_; (with_reducible refine (spec_keFits.calls k1 (rdOf ByteArray.empty l0 x10_1) a1 false _ A6.out).mono ?_); rintro e w11 ⟨rfl, hb⟩; refine ⟨_, rfl, ?_⟩; replace HO_5 := aM (Kd.R_below HO_5.out hb); replace HB := aM (below_step HB.out hb); (try clear hb)))
     go_roundg k1
     case measure => have := HK1.out; omega
     case rel => exact ⟨(x5_1), (wrap64 (x10_1 + 1)), rfl, H', ⟨by have := HK1.out; omega⟩, HO_5, HB⟩
   ·have c3b0 := decide_eq_false c3
    clear c3
    obtain rfl := Option.some.inj H
    go_wp2
    go_ret
    exact ⟨_, rfl, HO_5.out, HB.out⟩

end Go.Proofs.YtbmbehkdidlolaaGreatDoor.PT
