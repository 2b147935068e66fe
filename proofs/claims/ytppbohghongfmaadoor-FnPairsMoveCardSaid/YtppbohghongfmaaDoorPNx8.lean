-- written by a program of this session's (wip/tools), over the kit's print
import Derived.Test.YtppbohghongfmaaDoorPNx0
import Derived.Test.YtppbohghongfmaaDoorPNx2
import Derived.Test.YtppbohghongfmaaDoorPNx4
import Derived.Test.YtppbohghongfmaaDoorPNx7
-- squeezed
-- squeezed twice
namespace Go.Proofs.YtppbohghongfmaaDoor.PN
open Go.RowKit Go.Proofs.YtppbohghongfmaaDoorW.PrintWords Go.Proofs.YtppbohghongfmaaDoorW.PrintLast Go.Proofs.YtppbohghongfmaaDoorW.PrintMore
attribute [local go_sem] max2_int min2_int max_two min_two max_three min_three max_four min_four   -- for this text's walks alone
set_option linter.unusedVariables false
set_option linter.unusedSimpArgs false

/-! ### impl_PairsUsed: function 14 -/
def impl_PairsUsed.l0 : Nat → Int → List Int → Int → Int → Option (Int × Bool)
 | 0, _, _, _, _ => none
 | k + 1, x8, x19, x20, x21 => if x21 < x20 then (if 0 ≤ x21 then (if x21 < (x19.length : Int) then (if (rd x19 x21) = (-1) then (impl_PairsUsed.l0 k (wrap64 (x8 + 1)) x19 x20 (wrap64 (x21 + 1))) else (impl_PairsUsed.l0 k x8 x19 x20 (wrap64 (x21 + 1)))) else (none)) else (none)) else (some (x8, true))
def impl_PairsUsed.f (k : Nat) (a0 : ByteArray) (a1 : ByteArray) : Option (Int × Bool) := (impl_FirstPairMoves.f k a0 a1).bind fun bt419 => (if bt419.2 = true then (impl_PairsUsed.l0 k 0 bt419.1 (bt419.1.length : Int) 0) else (some (0, false)))
theorem impl_PairsUsed.mono_l : ∀ k, (∀ y0 y1 y2 y3, LeO (impl_PairsUsed.l0 k y0 y1 y2 y3) (impl_PairsUsed.l0 (k + 1) y0 y1 y2 y3))
 | 0 => fun _ _ _ _ r h => by simp [impl_PairsUsed.l0] at h
 | k + 1 => by
  have ih0 := impl_PairsUsed.mono_l k
  ·intro y0 y1 y2 y3
   unfold impl_PairsUsed.l0
   with_reducible repeat' first | exact ih0 _ _ _ _ | exact impl_FirstPairMoves.mono _ _ _ | exact LeO.refl _ | exact LeO.none _ | refine LeO.ite ?_ ?_ | refine LeO.bind ?_ (fun _ => ?_)
theorem impl_PairsUsed.mono : ∀ a0 a1 k, LeO (impl_PairsUsed.f k a0 a1) (impl_PairsUsed.f (k + 1) a0 a1) := by
 intro a0 a1 k
 have ih0 := impl_PairsUsed.mono_l k
 unfold impl_PairsUsed.f
 with_reducible repeat' first | exact ih0 _ _ _ _ | exact impl_FirstPairMoves.mono _ _ _ | exact LeO.refl _ | exact LeO.none _ | refine LeO.ite ?_ ?_ | refine LeO.bind ?_ (fun _ => ?_)
set_option maxHeartbeats 8000000 in
set_option maxRecDepth 100000 in
theorem impl_PairsUsed.calls (k : Nat) (a0 : ByteArray) (a1 : ByteArray) (r1 : Int) (r2 : Bool) (w : World) (h : impl_PairsUsed.f k a0 a1 = some (r1, r2)) :
  Calls Tryd.prog 14 #[.string a0, .string a1] w fun e w' => e = .returned (.tuple #[.int .i64 r1, .bool r2]) ∧ Below w.heap.size w w' := by
 have HB := aM (Below.refl w.heap.size w)
 have H := h; clear h; unfold impl_PairsUsed.f at H
 replace H := jS H; obtain ⟨⟨t419, t420⟩, A3, H⟩ := H; dsimp only at H
 by_cases c4 : t420 = true
 ·subst c4
  replace H := jT H
  have H' := aM H
  clear H
  go_enter Tryd.func14, Tryd.ntmps14
  go_wp2_with (first | ((with_reducible refine gC 6 rfl ?_); refine gL (some 14) Tryd.func6 #[.string a0, .string a1] ?_; (with_reducible refine (impl_FirstPairMoves.calls k a0 a1 t419 true _ A3.out).mono ?_); rintro e w5 ⟨v421, rfl, ho0, hb⟩; refine ⟨_, rfl, ?_⟩; have HO422 := aM (Kd.R_lower ho0 (below_size HB.out)); replace HB := aM (below_step HB.out hb); (try clear hb); (try clear ho0); obtain ⟨Ao6, co6, eo6⟩ := Kd.R_slice HO422.out; subst eo6))
  go_loopg [8, 21] k (fun kq v8 v21 w' => ∃ (x8_1 : Int) (x21_1 : Int), v8 = .int .i64 x8_1 ∧ v21 = .int .i64 x21_1 ∧ Aside0 (impl_PairsUsed.l0 kq x8_1 t419 (t419.length : Int) x21_1 = some (r1, r2)) ∧ Aside0 (kq ≤ k) ∧ Aside0 (Kd.R (Kd.int .i64) 3 w' w.heap.size (fun _ => True) (.slice Ao6 t419.length co6) t419) ∧ Aside0 (Below w.heap.size w w'))
  case atStart => exact ⟨(0), (0), rfl, rfl, H', ⟨Nat.le_refl _⟩, HO422, HB⟩
  case round =>
   clear H'
   obtain ⟨x8_1, x21_1, rfl, rfl, HA, HK1, HO_19, HB⟩ := hrel
   cases gk with
   | zero => exact absurd HA.out (by simp [impl_PairsUsed.l0])
   | succ k1 =>
    have H := HA.out
    clear HA
    simp only [impl_PairsUsed.l0] at H
    replace H := iO H; obtain ⟨c7, H⟩ | ⟨c7, H⟩ := H
    ·have c7b0 := decide_eq_true c7
     clear c7
     replace H := iC H; obtain ⟨c8, H⟩ := H
     have c8b0 := decide_eq_true c8
     clear c8
     replace H := iC H; obtain ⟨c9, H⟩ := H
     have c9b0 := decide_eq_true c9
     clear c9
     replace H := iO H; obtain ⟨c10, H⟩ | ⟨c10, H⟩ := H
     ·have c10b0 : ((rd t419 x21_1) == (-1)) = true := beq_iff_eq.mpr c10
      have c10b1 : ((rd t419 x21_1) != (-1)) = false := bne_eq_false_iff_eq.mpr c10
      clear c10
      have H' := aM H
      clear H; obtain ⟨ad423, e423, hx423_0, p423, q423⟩ := aZ (Kd.at_int (Kd.R_reads' HO_19.out).2.2 x21_1); cases e423
      go_wp2
      go_roundg k1
      case measure => have := HK1.out; omega
      case rel => exact ⟨(wrap64 (x8_1 + 1)), (wrap64 (x21_1 + 1)), rfl, rfl, H', ⟨by have := HK1.out; omega⟩, HO_19, HB⟩
     ·have c10b0 : ((rd t419 x21_1) == (-1)) = false := beq_eq_false_iff_ne.mpr c10
      have c10b1 : ((rd t419 x21_1) != (-1)) = true := bne_iff_ne.mpr c10
      have H' := aM H
      clear H; obtain ⟨ad423, e423, hx423_0, p423, q423⟩ := aZ (Kd.at_int (Kd.R_reads' HO_19.out).2.2 x21_1); cases e423
      go_wp2
      go_roundg k1
      case measure => have := HK1.out; omega
      case rel => exact ⟨(x8_1), (wrap64 (x21_1 + 1)), rfl, rfl, H', ⟨by have := HK1.out; omega⟩, HO_19, HB⟩
    ·have c7b0 := decide_eq_false c7
     clear c7
     simp only [Option.some.injEq, Prod.mk.injEq] at H
     obtain ⟨rfl, rfl⟩ := H
     go_wp2
     go_ret2
     exact ⟨rfl, HB.out⟩
 ·replace c4 := Bool.eq_false_iff.mpr c4
  subst c4
  replace H := jF H
  simp only [Option.some.injEq, Prod.mk.injEq] at H
  obtain ⟨rfl, rfl⟩ := H
  go_enter Tryd.func14, Tryd.ntmps14
  go_wp2_with (first | ((with_reducible refine gC 6 rfl ?_); refine gL (some 14) Tryd.func6 #[.string a0, .string a1] ?_; (with_reducible refine (impl_FirstPairMoves.calls k a0 a1 t419 false _ A3.out).mono ?_); rintro e w11 ⟨v421, rfl, ho0, hb⟩; refine ⟨_, rfl, ?_⟩; have HO422 := aM (Kd.R_lower ho0 (below_size HB.out)); replace HB := aM (below_step HB.out hb); (try clear hb); (try clear ho0)))
  go_ret2
  exact ⟨rfl, HB.out⟩

/-! ### spec_PairsUsed: function 15 -/
def spec_PairsUsed.l0 : Nat → Int → List Int → Int → Int → Option (Int × Bool)
 | 0, _, _, _, _ => none
 | k + 1, x6, x15, x16, x17 => if x17 < x16 then (if 0 ≤ x17 then (if x17 < (x15.length : Int) then (if (rd x15 x17) = (-1) then (spec_PairsUsed.l0 k (wrap64 (x6 + 1)) x15 x16 (wrap64 (x17 + 1))) else (spec_PairsUsed.l0 k x6 x15 x16 (wrap64 (x17 + 1)))) else (none)) else (none)) else (some (x6, true))
def spec_PairsUsed.f (k : Nat) (a0 : ByteArray) (a1 : ByteArray) : Option (Int × Bool) := (spec_twTwo.f k a0 a1).bind fun t424 => (if t424 = true then ((spec_twFirst.f k a0 a1).bind fun t425 => (spec_PairsUsed.l0 k 0 t425 (t425.length : Int) 0)) else (some (0, false)))
theorem spec_PairsUsed.mono_l : ∀ k, (∀ y0 y1 y2 y3, LeO (spec_PairsUsed.l0 k y0 y1 y2 y3) (spec_PairsUsed.l0 (k + 1) y0 y1 y2 y3))
 | 0 => fun _ _ _ _ r h => by simp [spec_PairsUsed.l0] at h
 | k + 1 => by
  have ih0 := spec_PairsUsed.mono_l k
  ·intro y0 y1 y2 y3
   unfold spec_PairsUsed.l0
   with_reducible repeat' first | exact ih0 _ _ _ _ | exact spec_twFirst.mono _ _ _ | exact spec_twTwo.mono _ _ _ | exact LeO.refl _ | exact LeO.none _ | refine LeO.ite ?_ ?_ | refine LeO.bind ?_ (fun _ => ?_)
theorem spec_PairsUsed.mono : ∀ a0 a1 k, LeO (spec_PairsUsed.f k a0 a1) (spec_PairsUsed.f (k + 1) a0 a1) := by
 intro a0 a1 k
 have ih0 := spec_PairsUsed.mono_l k
 unfold spec_PairsUsed.f
 with_reducible repeat' first | exact ih0 _ _ _ _ | exact spec_twFirst.mono _ _ _ | exact spec_twTwo.mono _ _ _ | exact LeO.refl _ | exact LeO.none _ | refine LeO.ite ?_ ?_ | refine LeO.bind ?_ (fun _ => ?_)
set_option maxHeartbeats 8000000 in
set_option maxRecDepth 100000 in
theorem spec_PairsUsed.calls (k : Nat) (a0 : ByteArray) (a1 : ByteArray) (r1 : Int) (r2 : Bool) (w : World) (h : spec_PairsUsed.f k a0 a1 = some (r1, r2)) :
  Calls Tryd.prog 15 #[.string a0, .string a1] w fun e w' => e = .returned (.tuple #[.int .i64 r1, .bool r2]) ∧ Below w.heap.size w w' := by
 have HB := aM (Below.refl w.heap.size w)
 have H := h; clear h; unfold spec_PairsUsed.f at H
 replace H := jS H; obtain ⟨t424, A3, H⟩ := H
 by_cases c4 : t424 = true
 ·subst c4
  replace H := jT H
  replace H := jS H; obtain ⟨t425, A5, H⟩ := H
  have H' := aM H
  clear H
  go_enter Tryd.func15, Tryd.ntmps15
  go_wp2_with (first | ((with_reducible refine gC 36 rfl ?_); refine gL (some 11) Tryd.func36 #[.string a0, .string a1] ?_; (with_reducible refine (spec_twTwo.calls k a0 a1 true _ A3.out).mono ?_); rintro e w' ⟨rfl, ⟨nd, rfl⟩⟩; refine ⟨_, rfl, ?_⟩) | ((with_reducible refine gC 37 rfl ?_); refine gL (some 15) Tryd.func37 #[.string a0, .string a1] ?_; (with_reducible refine (spec_twFirst.calls k a0 a1 t425 _ A5.out).mono ?_); rintro e w6 ⟨v426, rfl, ho0, hb⟩; refine ⟨_, rfl, ?_⟩; have HO427 := aM (Kd.R_lower ho0 (below_size bQ)); replace HB := aM (below_step bQ hb); (try clear hb); (try clear ho0); obtain ⟨Ao7, co7, eo7⟩ := Kd.R_slice HO427.out; subst eo7))
  go_loopg [6, 17] k (fun kq v6 v17 w' => ∃ (x6_1 : Int) (x17_1 : Int), v6 = .int .i64 x6_1 ∧ v17 = .int .i64 x17_1 ∧ Aside0 (spec_PairsUsed.l0 kq x6_1 t425 (t425.length : Int) x17_1 = some (r1, r2)) ∧ Aside0 (kq ≤ k) ∧ Aside0 (Kd.R (Kd.int .i64) 3 w' w.heap.size (fun _ => True) (.slice Ao7 t425.length co7) t425) ∧ Aside0 (Below w.heap.size w w'))
  case atStart => exact ⟨(0), (0), rfl, rfl, H', ⟨Nat.le_refl _⟩, HO427, HB⟩
  case round =>
   clear H'
   obtain ⟨x6_1, x17_1, rfl, rfl, HA, HK1, HO_15, HB⟩ := hrel
   cases gk with
   | zero => exact absurd HA.out (by simp [spec_PairsUsed.l0])
   | succ k1 =>
    have H := HA.out
    clear HA
    simp only [spec_PairsUsed.l0] at H
    replace H := iO H; obtain ⟨c8, H⟩ | ⟨c8, H⟩ := H
    ·have c8b0 := decide_eq_true c8
     clear c8
     replace H := iC H; obtain ⟨c9, H⟩ := H
     have c9b0 := decide_eq_true c9
     clear c9
     replace H := iC H; obtain ⟨c10, H⟩ := H
     have c10b0 := decide_eq_true c10
     clear c10
     replace H := iO H; obtain ⟨c11, H⟩ | ⟨c11, H⟩ := H
     ·have c11b0 : ((rd t425 x17_1) == (-1)) = true := beq_iff_eq.mpr c11
      have c11b1 : ((rd t425 x17_1) != (-1)) = false := bne_eq_false_iff_eq.mpr c11
      clear c11
      have H' := aM H
      clear H; obtain ⟨ad428, e428, hx428_0, p428, q428⟩ := aZ (Kd.at_int (Kd.R_reads' HO_15.out).2.2 x17_1); cases e428
      go_wp2
      go_roundg k1
      case measure => have := HK1.out; omega
      case rel => exact ⟨(wrap64 (x6_1 + 1)), (wrap64 (x17_1 + 1)), rfl, rfl, H', ⟨by have := HK1.out; omega⟩, HO_15, HB⟩
     ·have c11b0 : ((rd t425 x17_1) == (-1)) = false := beq_eq_false_iff_ne.mpr c11
      have c11b1 : ((rd t425 x17_1) != (-1)) = true := bne_iff_ne.mpr c11
      have H' := aM H
      clear H; obtain ⟨ad428, e428, hx428_0, p428, q428⟩ := aZ (Kd.at_int (Kd.R_reads' HO_15.out).2.2 x17_1); cases e428
      go_wp2
      go_roundg k1
      case measure => have := HK1.out; omega
      case rel => exact ⟨(x6_1), (wrap64 (x17_1 + 1)), rfl, rfl, H', ⟨by have := HK1.out; omega⟩, HO_15, HB⟩
    ·have c8b0 := decide_eq_false c8
     clear c8
     simp only [Option.some.injEq, Prod.mk.injEq] at H
     obtain ⟨rfl, rfl⟩ := H
     go_wp2
     go_ret2
     exact ⟨rfl, HB.out⟩
 ·replace c4 := Bool.eq_false_iff.mpr c4
  subst c4
  replace H := jF H
  simp only [Option.some.injEq, Prod.mk.injEq] at H
  obtain ⟨rfl, rfl⟩ := H
  go_enter Tryd.func15, Tryd.ntmps15
  go_wp2_with (first | ((with_reducible refine gC 36 rfl ?_); refine gL (some 11) Tryd.func36 #[.string a0, .string a1] ?_; (with_reducible refine (spec_twTwo.calls k a0 a1 false _ A3.out).mono ?_); rintro e w' ⟨rfl, ⟨nd, rfl⟩⟩; refine ⟨_, rfl, ?_⟩))
  go_ret2
  exact ⟨rfl, bQ⟩

/-! ### laws_ySame: function 16 -/
def laws_ySame.l0 : Nat → List Int → List Int → Int → Int → Option (Bool)
 | 0, _, _, _, _ => none
 | k + 1, x0, x1, x12, x13 => if x13 < x12 then (if 0 ≤ x13 then (if x13 < (x0.length : Int) then (if x13 < (x1.length : Int) then (if (rd x0 x13) = (rd x1 x13) then (laws_ySame.l0 k x0 x1 x12 (wrap64 (x13 + 1))) else (some false)) else (none)) else (none)) else (none)) else (some true)
def laws_ySame.f (k : Nat) (l0 : List Int) (l1 : List Int) : Option (Bool) := if (l0.length : Int) = (l1.length : Int) then (laws_ySame.l0 k l0 l1 (l0.length : Int) 0) else (some false)
theorem laws_ySame.mono_l : ∀ k, (∀ y0 y1 y2 y3, LeO (laws_ySame.l0 k y0 y1 y2 y3) (laws_ySame.l0 (k + 1) y0 y1 y2 y3))
 | 0 => fun _ _ _ _ r h => by simp [laws_ySame.l0] at h
 | k + 1 => by
  have ih0 := laws_ySame.mono_l k
  ·intro y0 y1 y2 y3
   unfold laws_ySame.l0
   with_reducible repeat' first | exact ih0 _ _ _ _ | exact LeO.refl _ | exact LeO.none _ | refine LeO.ite ?_ ?_ | refine LeO.bind ?_ (fun _ => ?_)
theorem laws_ySame.mono : ∀ a0 a1 k, LeO (laws_ySame.f k a0 a1) (laws_ySame.f (k + 1) a0 a1) := by
 intro a0 a1 k
 have ih0 := laws_ySame.mono_l k
 unfold laws_ySame.f
 with_reducible repeat' first | exact ih0 _ _ _ _ | exact LeO.refl _ | exact LeO.none _ | refine LeO.ite ?_ ?_ | refine LeO.bind ?_ (fun _ => ?_)
set_option maxHeartbeats 8000000 in
set_option maxRecDepth 100000 in
theorem laws_ySame.calls (k : Nat) (A0 : Option Addr) (c0 : Nat) (l0 : List Int) (A1 : Option Addr) (c1 : Nat) (l1 : List Int) (r : Bool) (w : World) (hr0 : Kd.C (Kd.int .i64) w A0 l0.length l0) (hc0 : l0.length ≤ c0) (hr1 : Kd.C (Kd.int .i64) w A1 l1.length l1) (hc1 : l1.length ≤ c1) (h : laws_ySame.f k l0 l1 = some r) :
  Calls Tryd.prog 16 #[.slice A0 l0.length c0, .slice A1 l1.length c1] w fun e w' => e = .returned (.bool r) ∧ Drawn0 w w' := by
 have HR0 := aM hr0
 have HC0 := aM hc0
 clear hr0 hc0
 have HR1 := aM hr1
 have HC1 := aM hc1
 clear hr1 hc1
 have H := h; clear h; unfold laws_ySame.f at H
 replace H := iO H; obtain ⟨c3, H⟩ | ⟨c3, H⟩ := H
 ·have c3b0 : ((l0.length : Int) == (l1.length : Int)) = true := beq_iff_eq.mpr c3
  have c3b1 : ((l0.length : Int) != (l1.length : Int)) = false := bne_eq_false_iff_eq.mpr c3
  have c3b2 : (l0.length == l1.length) = true := by first | simpa using c3 | (simp at c3 ⊢; omega)
  clear c3
  have H' := aM H
  clear H
  go_enter Tryd.func16, Tryd.ntmps16
  go_wp2
  repeat (go_quiet (fail); try go_wp2)
  go_loopg [13] k (fun kq v13 w' => ∃ (x13_1 : Int), v13 = .int .i64 x13_1 ∧ Aside0 (laws_ySame.l0 kq l0 l1 (l0.length : Int) x13_1 = some r) ∧ Aside0 (kq ≤ k) ∧ Drawn0 w w')
  case atStart => exact ⟨(0), rfl, H', ⟨Nat.le_refl _⟩, by repeat (first | exact Drawn0.refl _ | apply Drawn0.step)⟩
  case round =>
   clear H'
   clear c3b0 c3b1 c3b2
   obtain ⟨x13_1, rfl, HA, HK1, ⟨m1, rfl⟩⟩ := hrel
   cases gk with
   | zero => exact absurd HA.out (by simp [laws_ySame.l0])
   | succ k1 =>
    have H := HA.out
    clear HA
    simp only [laws_ySame.l0] at H
    replace H := iO H; obtain ⟨c4, H⟩ | ⟨c4, H⟩ := H
    ·have c4b0 := decide_eq_true c4
     clear c4
     replace H := iC H; obtain ⟨c5, H⟩ := H
     have c5b0 := decide_eq_true c5
     clear c5
     replace H := iC H; obtain ⟨c6, H⟩ := H
     have c6b0 := decide_eq_true c6
     clear c6
     replace H := iC H; obtain ⟨c7, H⟩ := H
     have c7b0 := decide_eq_true c7
     clear c7
     replace H := iO H; obtain ⟨c8, H⟩ | ⟨c8, H⟩ := H
     ·have c8b0 : ((rd l0 x13_1) == (rd l1 x13_1)) = true := beq_iff_eq.mpr c8
      have c8b1 : ((rd l0 x13_1) != (rd l1 x13_1)) = false := bne_eq_false_iff_eq.mpr c8
      clear c8
      have H' := aM H
      clear H; obtain ⟨ad429, e429, hx429_0, p429, q429⟩ := aZ (Kd.at_int HR0.out x13_1); cases e429; obtain ⟨ad430, e430, hx430_0, p430, q430⟩ := aZ (Kd.at_int HR1.out x13_1); cases e430
      go_wp2
      repeat (go_quiet (fail); try go_wp2)
      go_roundg k1
      case measure => have := HK1.out; omega
      case rel => exact ⟨(wrap64 (x13_1 + 1)), rfl, H', ⟨by have := HK1.out; omega⟩, by repeat (first | exact Drawn0.refl _ | apply Drawn0.step)⟩
     ·have c8b0 : ((rd l0 x13_1) == (rd l1 x13_1)) = false := beq_eq_false_iff_ne.mpr c8
      have c8b1 : ((rd l0 x13_1) != (rd l1 x13_1)) = true := bne_iff_ne.mpr c8
      obtain rfl := Option.some.inj H
      obtain ⟨ad429, e429, hx429_0, p429, q429⟩ := aZ (Kd.at_int HR0.out x13_1); cases e429; obtain ⟨ad430, e430, hx430_0, p430, q430⟩ := aZ (Kd.at_int HR1.out x13_1); cases e430
      go_wp2
      repeat (go_quiet (fail); try go_wp2)
      go_ret
      exact ⟨rfl, by repeat (first | exact Drawn0.refl _ | apply Drawn0.step)⟩
    ·have c4b0 := decide_eq_false c4
     clear c4
     obtain rfl := Option.some.inj H
     go_wp2
     repeat (go_quiet (fail); try go_wp2)
     go_ret
     exact ⟨rfl, by repeat (first | exact Drawn0.refl _ | apply Drawn0.step)⟩
 ·have c3b0 : ((l0.length : Int) == (l1.length : Int)) = false := beq_eq_false_iff_ne.mpr c3
  have c3b1 : ((l0.length : Int) != (l1.length : Int)) = true := bne_iff_ne.mpr c3
  have c3b2 : (l0.length == l1.length) = false := by first | simpa using c3 | (simp at c3 ⊢; omega)
  obtain rfl := Option.some.inj H
  go_enter Tryd.func16, Tryd.ntmps16
  go_wp2
  repeat (go_quiet (fail); try go_wp2)
  go_ret
  exact ⟨rfl, by repeat (first | exact Drawn0.refl _ | apply Drawn0.step)⟩

/-! ### impl_PlayPairMoves: function 17 -/
mutual
def impl_PlayPairMoves.j0 : Nat → ByteArray → List Int → Bool → Option (ByteArray × Bool)
 | 0, _, _, _ => none
 | k + 1, x0, x1, x15 => if x15 = true then (some ((⟨#[]⟩ : ByteArray), false)) else (impl_PlayPairMoves.l0 k x0 x1 (x1.length : Int) 0)
def impl_PlayPairMoves.l0 : Nat → ByteArray → List Int → Int → Int → Option (ByteArray × Bool)
 | 0, _, _, _, _ => none
 | k + 1, x0, x16, x17, x18 => if x18 < x17 then (if 0 ≤ x18 then (if x18 < (x16.length : Int) then ((impl_canPair.f x0 (rd x16 x18)).bind fun t433 => (if t433 = true then ((impl_paired.f x0 (rd x16 x18)).bind fun t434 => (impl_PlayPairMoves.l0 k t434 x16 x17 (wrap64 (x18 + 1)))) else (some ((⟨#[]⟩ : ByteArray), false)))) else (none)) else (none)) else (some (x0, true))
end
def impl_PlayPairMoves.f (k : Nat) (a0 : ByteArray) (l1 : List Int) : Option (ByteArray × Bool) := (impl_isPaired.f a0).bind fun t431 => (if t431 = true then (impl_PlayPairMoves.j0 k a0 l1 (decide ((l1.length : Int) > 2000))) else (impl_PlayPairMoves.j0 k a0 l1 true))
theorem impl_PlayPairMoves.mono_l : ∀ k, (∀ y0 y1 y2, LeO (impl_PlayPairMoves.j0 k y0 y1 y2) (impl_PlayPairMoves.j0 (k + 1) y0 y1 y2)) ∧ (∀ y0 y1 y2 y3, LeO (impl_PlayPairMoves.l0 k y0 y1 y2 y3) (impl_PlayPairMoves.l0 (k + 1) y0 y1 y2 y3))
 | 0 => ⟨fun _ _ _ r h => by simp [impl_PlayPairMoves.j0] at h, fun _ _ _ _ r h => by simp [impl_PlayPairMoves.l0] at h⟩
 | k + 1 => by
  obtain ⟨ih0, ih1⟩ := impl_PlayPairMoves.mono_l k
  refine ⟨?_, ?_⟩
  ·intro y0 y1 y2
   unfold impl_PlayPairMoves.j0
   with_reducible repeat' first | exact ih0 _ _ _ | exact ih1 _ _ _ _ | exact LeO.refl _ | exact LeO.none _ | refine LeO.ite ?_ ?_ | refine LeO.bind ?_ (fun _ => ?_)
  ·intro y0 y1 y2 y3
   unfold impl_PlayPairMoves.l0
   with_reducible repeat' first | exact ih0 _ _ _ | exact ih1 _ _ _ _ | exact LeO.refl _ | exact LeO.none _ | refine LeO.ite ?_ ?_ | refine LeO.bind ?_ (fun _ => ?_)
theorem impl_PlayPairMoves.mono : ∀ a0 a1 k, LeO (impl_PlayPairMoves.f k a0 a1) (impl_PlayPairMoves.f (k + 1) a0 a1) := by
 intro a0 a1 k
 obtain ⟨ih0, ih1⟩ := impl_PlayPairMoves.mono_l k
 unfold impl_PlayPairMoves.f
 with_reducible repeat' first | exact ih0 _ _ _ | exact ih1 _ _ _ _ | exact LeO.refl _ | exact LeO.none _ | refine LeO.ite ?_ ?_ | refine LeO.bind ?_ (fun _ => ?_)
set_option maxHeartbeats 8000000 in
set_option maxRecDepth 100000 in
theorem impl_PlayPairMoves.calls (k : Nat) (a0 : ByteArray) (A1 : Option Addr) (c1 : Nat) (l1 : List Int) (r1 : ByteArray) (r2 : Bool) (w : World) (hr1 : Kd.C (Kd.int .i64) w A1 l1.length l1) (hc1 : l1.length ≤ c1) (h : impl_PlayPairMoves.f k a0 l1 = some (r1, r2)) :
  Calls Tryd.prog 17 #[.string a0, .slice A1 l1.length c1] w fun e w' => e = .returned (.tuple #[.string r1, .bool r2]) ∧ Below w.heap.size w w' := by
 have HR1 := aM hr1
 have HC1 := aM hc1
 clear hr1 hc1
 have HB := aM (Below.refl w.heap.size w)
 have H := h; clear h; unfold impl_PlayPairMoves.f at H
 have HC3 := aM H
 clear H
 go_enter Tryd.func17, Tryd.ntmps17
 go_upto_region 1 with (fail)
 go_cut [15] (fun v15 wc => ∃ (kq : Nat) (x15_2 : Bool), v15 = .bool x15_2 ∧ Aside0 (impl_PlayPairMoves.j0 kq a0 l1 x15_2 = some (r1, r2)) ∧ Aside0 (kq ≤ k) ∧ Aside0 (Below w.heap.size w wc))
 case first =>
  have H := HC3.out
  clear HC3
  replace H := jS H; obtain ⟨t431, A4, H⟩ := H
  by_cases c5 : t431 = true
  ·subst c5
   replace H := jT H
   have H' := aM H
   clear H
   go_wp2_with (first | ((with_reducible refine gC 42 rfl ?_); refine gL (some 9) Tryd.func42 #[.string a0] ?_; (with_reducible refine (impl_isPaired.calls a0 true _ A4.out).mono ?_); rintro e w6 ⟨rfl, hb⟩; refine ⟨_, rfl, ?_⟩; replace HB := aM (below_step HB.out hb); (try clear hb)))
   go_meet
   case rel => exact ⟨_, (decide ((l1.length : Int) > 2000)), rfl, H', ⟨by omega⟩, HB⟩
  ·replace c5 := Bool.eq_false_iff.mpr c5
   subst c5
   replace H := jF H
   have H' := aM H
   clear H
   go_wp2_with (first | ((with_reducible refine gC 42 rfl ?_); refine gL (some 9) Tryd.func42 #[.string a0] ?_; (with_reducible refine (impl_isPaired.calls a0 false _ A4.out).mono ?_); rintro e w7 ⟨rfl, hb⟩; refine ⟨_, rfl, ?_⟩; replace HB := aM (below_step HB.out hb); (try clear hb)))
   go_meet
   case rel => exact ⟨_, (true), rfl, H', ⟨by omega⟩, HB⟩
 case rest =>
  clear HC3
  obtain ⟨kq, x15_2, rfl, HA, HJ2, HB⟩ := hcut
  cases kq with
  | zero => exact absurd HA.out (by simp [impl_PlayPairMoves.j0])
  | succ kj2 =>
   have H := HA.out
   clear HA
   simp only [impl_PlayPairMoves.j0] at H
   by_cases c8 : x15_2 = true
   ·subst c8
    replace H := jT H
    simp only [Option.some.injEq, Prod.mk.injEq] at H
    obtain ⟨rfl, rfl⟩ := H
    go_wp2
    go_ret2
    exact ⟨rfl, HB.out⟩
   ·replace c8 := Bool.eq_false_iff.mpr c8
    subst c8
    replace H := jF H
    have H' := aM H
    clear H
    go_wp2
    go_loopg [0, 18] kj2 (fun kq v0 v18 w' => ∃ (x0_2 : ByteArray) (x18_2 : Int), v0 = .string x0_2 ∧ v18 = .int .i64 x18_2 ∧ Aside0 (impl_PlayPairMoves.l0 kq x0_2 l1 (l1.length : Int) x18_2 = some (r1, r2)) ∧ Aside0 (kq ≤ kj2) ∧ Aside0 (Below w.heap.size w w'))
    case atStart => exact ⟨(a0), (0), rfl, rfl, H', ⟨Nat.le_refl _⟩, HB⟩
    case round =>
     clear H'
     obtain ⟨x0_2, x18_2, rfl, rfl, HA, HK2, HB⟩ := hrel
     cases gk with
     | zero => exact absurd HA.out (by simp [impl_PlayPairMoves.l0])
     | succ k2 =>
      have H := HA.out
      clear HA
      simp only [impl_PlayPairMoves.l0] at H
      replace H := iO H; obtain ⟨c9, H⟩ | ⟨c9, H⟩ := H
      ·have c9b0 := decide_eq_true c9
       clear c9
       replace H := iC H; obtain ⟨c10, H⟩ := H
       have c10b0 := decide_eq_true c10
       clear c10
       replace H := iN H; obtain ⟨c11b0, H⟩ := H
       replace H := jS H; obtain ⟨t433, A12, H⟩ := H
       by_cases c13 : t433 = true
       ·subst c13
        replace H := jT H
        replace H := jS H; obtain ⟨t434, A14, H⟩ := H
        have H' := aM H
        clear H; have p432 : 0 ≤ (x18_2 : Int) := oD; have q432 : x18_2 < (l1.length : Int) := oD; obtain ⟨ad432, e432, hx432_0⟩ := Kd.at_int HR1.out x18_2 p432 q432; cases e432
        replace hx432_0 := (HB.out.cell (World.block_lt_of_cell? w _ hx432_0)).trans hx432_0
        replace p432 := eq_true p432; replace q432 := eq_true q432
        go_wp2_with (first | ((with_reducible refine gC 43 rfl ?_); refine gL (some 24) Tryd.func43 #[.string x0_2, .int .i64 (rd l1 x18_2)] ?_; (with_reducible refine (impl_canPair.calls x0_2 (rd l1 x18_2) true _ A12.out).mono ?_); rintro e w15 ⟨rfl, hb⟩; refine ⟨_, rfl, ?_⟩; replace HB := aM (below_step HB.out hb); (try clear hb)) | ((with_reducible refine gC 35 rfl ?_); refine gL (some 28) Tryd.func35 #[.string x0_2, .int .i64 (rd l1 x18_2)] ?_; (with_reducible refine (impl_paired.calls x0_2 (rd l1 x18_2) t434 _ A14.out).mono ?_); rintro e w16 ⟨rfl, hb⟩; refine ⟨_, rfl, ?_⟩; replace HB := aM (below_step HB.out hb); (try clear hb)))
        go_roundg k2
        case measure => have := HJ2.out; have := HK2.out; omega
        case rel => exact ⟨(t434), (wrap64 (x18_2 + 1)), rfl, rfl, H', ⟨by have := HJ2.out; have := HK2.out; omega⟩, HB⟩
       ·replace c13 := Bool.eq_false_iff.mpr c13
        subst c13
        replace H := jF H
        simp only [Option.some.injEq, Prod.mk.injEq] at H
        obtain ⟨rfl, rfl⟩ := H
        have p432 : 0 ≤ (x18_2 : Int) := oD; have q432 : x18_2 < (l1.length : Int) := oD; obtain ⟨ad432, e432, hx432_0⟩ := Kd.at_int HR1.out x18_2 p432 q432; cases e432
        replace hx432_0 := (HB.out.cell (World.block_lt_of_cell? w _ hx432_0)).trans hx432_0
        replace p432 := eq_true p432; replace q432 := eq_true q432
        go_wp2_with (first | ((with_reducible refine gC 43 rfl ?_); refine gL (some 24) Tryd.func43 #[.string x0_2, .int .i64 (rd l1 x18_2)] ?_; (with_reducible refine (impl_canPair.calls x0_2 (rd l1 x18_2) false _ A12.out).mono ?_); rintro e w17 ⟨rfl, hb⟩; refine ⟨_, rfl, ?_⟩; replace HB := aM (below_step HB.out hb); (try clear hb)))
        go_ret2
        exact ⟨rfl, HB.out⟩
      ·have c9b0 := decide_eq_false c9
       clear c9
       simp only [Option.some.injEq, Prod.mk.injEq] at H
       obtain ⟨rfl, rfl⟩ := H
       go_wp2
       go_ret2
       exact ⟨rfl, HB.out⟩

/-! ### impl_alike: function 44 -/
def impl_alike.f (a0 : ByteArray) (a1 : ByteArray) : Option (Bool) := (impl_IsState.f a0).bind fun t435 => (if t435 = true then ((impl_IsState.f a1).bind fun t436 => (if t436 = true then (some ((a0.size : Int) == (a1.size : Int))) else (some false))) else (some false))
set_option maxHeartbeats 8000000 in
set_option maxRecDepth 100000 in
theorem impl_alike.calls (a0 : ByteArray) (a1 : ByteArray) (r : Bool) (w : World) (h : impl_alike.f a0 a1 = some r) :
  Calls Tryd.prog 44 #[.string a0, .string a1] w fun e w' => e = .returned (.bool r) ∧ Below w.heap.size w w' := by
 have HB := aM (Below.refl w.heap.size w)
 have H := h; clear h; unfold impl_alike.f at H
 replace H := jS H; obtain ⟨t435, A3, H⟩ := H
 by_cases c4 : t435 = true
 ·subst c4
  replace H := jT H
  replace H := jS H; obtain ⟨t436, A5, H⟩ := H
  by_cases c6 : t436 = true
  ·subst c6
   replace H := jT H
   obtain rfl := Option.some.inj H
   go_enter Tryd.func44, Tryd.ntmps44
   go_wp2_with (first | ((with_reducible refine gC 53 rfl ?_); refine gL (some 6) Tryd.func53 #[.string a0] ?_; (with_reducible refine (impl_IsState.calls a0 true _ A3.out).mono ?_); rintro e w7 ⟨rfl, hb⟩; refine ⟨_, rfl, ?_⟩; replace HB := aM (below_step HB.out hb); (try clear hb)) | (go_at_call 53; (with_reducible refine (impl_IsState.calls a1 true _ A5.out).mono ?_); rintro e w8 ⟨rfl, hb⟩; replace HB := aM (below_step HB.out hb); (try clear hb)))
   go_ret
   exact ⟨rfl, HB.out⟩
  ·replace c6 := Bool.eq_false_iff.mpr c6
   subst c6
   replace H := jF H
   obtain rfl := Option.some.inj H
   go_enter Tryd.func44, Tryd.ntmps44
   go_wp2_with (first | ((with_reducible refine gC 53 rfl ?_); refine gL (some 6) Tryd.func53 #[.string a0] ?_; (with_reducible refine (impl_IsState.calls a0 true _ A3.out).mono ?_); rintro e w9 ⟨rfl, hb⟩; refine ⟨_, rfl, ?_⟩; replace HB := aM (below_step HB.out hb); (try clear hb)) | (go_at_call 53; (with_reducible refine (impl_IsState.calls a1 false _ A5.out).mono ?_); rintro e w10 ⟨rfl, hb⟩; replace HB := aM (below_step HB.out hb); (try clear hb)))
   go_ret
   exact ⟨rfl, HB.out⟩
 ·replace c4 := Bool.eq_false_iff.mpr c4
  subst c4
  replace H := jF H
  obtain rfl := Option.some.inj H
  go_enter Tryd.func44, Tryd.ntmps44
  go_wp2_with (first | ((with_reducible refine gC 53 rfl ?_); refine gL (some 6) Tryd.func53 #[.string a0] ?_; (with_reducible refine (impl_IsState.calls a0 false _ A3.out).mono ?_); rintro e w11 ⟨rfl, hb⟩; refine ⟨_, rfl, ?_⟩; replace HB := aM (below_step HB.out hb); (try clear hb)))
  go_ret
  exact ⟨rfl, HB.out⟩

/-! ### impl_FewestMoves: function 18 -/
def impl_FewestMoves.f (k : Nat) (a0 : ByteArray) (a1 : ByteArray) : Option (Int × Bool) := (impl_alike.f a0 a1).bind fun t437 => (if t437 = true then ((impl_number.f k a0).bind fun t438 => ((impl_number.f k a1).bind fun t439 => ((impl_apart.f t438 t439).bind fun t440 => (some (t440, true))))) else (some (0, false)))
theorem impl_FewestMoves.mono : ∀ a0 a1 k, LeO (impl_FewestMoves.f k a0 a1) (impl_FewestMoves.f (k + 1) a0 a1) := by
 intro a0 a1 k
 unfold impl_FewestMoves.f
 with_reducible repeat' first | exact impl_number.mono _ _ | exact LeO.refl _ | exact LeO.none _ | refine LeO.ite ?_ ?_ | refine LeO.bind ?_ (fun _ => ?_)
set_option maxHeartbeats 8000000 in
set_option maxRecDepth 100000 in
theorem impl_FewestMoves.calls (k : Nat) (a0 : ByteArray) (a1 : ByteArray) (r1 : Int) (r2 : Bool) (w : World) (h : impl_FewestMoves.f k a0 a1 = some (r1, r2)) :
  Calls Tryd.prog 18 #[.string a0, .string a1] w fun e w' => e = .returned (.tuple #[.int .i64 r1, .bool r2]) ∧ Below w.heap.size w w' := by
 have HB := aM (Below.refl w.heap.size w)
 have H := h; clear h; unfold impl_FewestMoves.f at H
 replace H := jS H; obtain ⟨t437, A3, H⟩ := H
 by_cases c4 : t437 = true
 ·subst c4
  replace H := jT H
  replace H := jS H; obtain ⟨t438, A5, H⟩ := H
  replace H := jS H; obtain ⟨t439, A6, H⟩ := H
  replace H := jS H; obtain ⟨t440, A7, H⟩ := H
  simp only [Option.some.injEq, Prod.mk.injEq] at H
  obtain ⟨rfl, rfl⟩ := H
  go_enter Tryd.func18, Tryd.ntmps18
  go_wp2_with (first | ((with_reducible refine gC 44 rfl ?_); refine gL (some 8) Tryd.func44 #[.string a0, .string a1] ?_; (with_reducible refine (impl_alike.calls a0 a1 true _ A3.out).mono ?_); rintro e w8 ⟨rfl, hb⟩; refine ⟨_, rfl, ?_⟩; replace HB := aM (below_step bQ hb); (try clear hb)) | ((with_reducible refine gC 33 rfl ?_); refine gL (some 11) Tryd.func33 #[.string a0] ?_; (with_reducible refine (impl_number.calls k a0 t438 _ A5.out).mono ?_); rintro e w' ⟨rfl, ⟨nd, rfl⟩⟩; refine ⟨_, rfl, ?_⟩) | ((with_reducible refine gC 33 rfl ?_); refine gL (some 13) Tryd.func33 #[.string a1] ?_; (with_reducible refine (impl_number.calls k a1 t439 _ A6.out).mono ?_); rintro e w' ⟨rfl, ⟨nd, rfl⟩⟩; refine ⟨_, rfl, ?_⟩) | ((with_reducible refine gC 40 rfl ?_); refine gL (some 14) Tryd.func40 #[.int .i64 t438, .int .i64 t439] ?_; (with_reducible refine (impl_apart.calls t438 t439 t440 _ A7.out).mono ?_); rintro e w9 ⟨rfl, hb⟩; refine ⟨_, rfl, ?_⟩; replace HB := aM (below_step bQ hb); (try clear hb)))
  go_ret2
  exact ⟨rfl, HB.out⟩
 ·replace c4 := Bool.eq_false_iff.mpr c4
  subst c4
  replace H := jF H
  simp only [Option.some.injEq, Prod.mk.injEq] at H
  obtain ⟨rfl, rfl⟩ := H
  go_enter Tryd.func18, Tryd.ntmps18
  go_wp2_with (first | ((with_reducible refine gC 44 rfl ?_); refine gL (some 8) Tryd.func44 #[.string a0, .string a1] ?_; (with_reducible refine (impl_alike.calls a0 a1 false _ A3.out).mono ?_); rintro e w10 ⟨rfl, hb⟩; refine ⟨_, rfl, ?_⟩; replace HB := aM (below_step HB.out hb); (try clear hb)))
  go_ret2
  exact ⟨rfl, HB.out⟩

/-! ### impl_PairMovesOf: function 19 -/
def impl_PairMovesOf.f (k : Nat) (a0 : ByteArray) : Option (List Int × Bool) := (impl_isPaired.f a0).bind fun t441 => (if t441 = true then ((impl_pairMoves.f k a0).bind fun t442 => (some (t442, true))) else (some (([] : List Int), false)))
theorem impl_PairMovesOf.mono : ∀ a0 k, LeO (impl_PairMovesOf.f k a0) (impl_PairMovesOf.f (k + 1) a0) := by
 intro a0 k
 unfold impl_PairMovesOf.f
 with_reducible repeat' first | exact impl_pairMoves.mono _ _ | exact LeO.refl _ | exact LeO.none _ | refine LeO.ite ?_ ?_ | refine LeO.bind ?_ (fun _ => ?_)
set_option maxHeartbeats 8000000 in
set_option maxRecDepth 100000 in
theorem impl_PairMovesOf.calls (k : Nat) (a0 : ByteArray) (r1 : List Int) (r2 : Bool) (w : World) (h : impl_PairMovesOf.f k a0 = some (r1, r2)) :
  Calls Tryd.prog 19 #[.string a0] w fun e w' => ∃ v0_ : Value, e = .returned (.tuple #[v0_, .bool r2]) ∧ Kd.R (Kd.int .i64) 3 w' w.heap.size (fun _ => True) v0_ r1 ∧ Below w.heap.size w w' := by
 have HB := aM (Below.refl w.heap.size w)
 have H := h; clear h; unfold impl_PairMovesOf.f at H
 replace H := jS H; obtain ⟨t441, A2, H⟩ := H
 by_cases c3 : t441 = true
 ·subst c3
  replace H := jT H
  replace H := jS H; obtain ⟨t442, A4, H⟩ := H
  simp only [Option.some.injEq, Prod.mk.injEq] at H
  obtain ⟨rfl, rfl⟩ := H
  go_enter Tryd.func19, Tryd.ntmps19
  go_wp2_with (first | ((with_reducible refine gC 42 rfl ?_); refine gL (some 5) Tryd.func42 #[.string a0] ?_; (with_reducible refine (impl_isPaired.calls a0 true _ A2.out).mono ?_); rintro e w5 ⟨rfl, hb⟩; refine ⟨_, rfl, ?_⟩; replace HB := aM (below_step HB.out hb); (try clear hb)) | ((with_reducible refine gC 34 rfl ?_); refine gL (some 8) Tryd.func34 #[.string a0] ?_; (with_reducible refine (impl_pairMoves.calls k a0 t442 _ A4.out).mono ?_); rintro e w6 ⟨v443, rfl, ho0, hb⟩; refine ⟨_, rfl, ?_⟩; have HO444 := aM (Kd.R_lower ho0 (below_size HB.out)); replace HB := aM (below_step HB.out hb); (try clear hb); (try clear ho0)))
  go_ret2
  exact ⟨_, rfl, HO444.out, HB.out⟩
 ·replace c3 := Bool.eq_false_iff.mpr c3
  subst c3
  replace H := jF H
  simp only [Option.some.injEq, Prod.mk.injEq] at H
  obtain ⟨rfl, rfl⟩ := H
  go_enter Tryd.func19, Tryd.ntmps19
  go_wp2_with (first | ((with_reducible refine gC 42 rfl ?_); refine gL (some 5) Tryd.func42 #[.string a0] ?_; (with_reducible refine (impl_isPaired.calls a0 false _ A2.out).mono ?_); rintro e w7 ⟨rfl, hb⟩; refine ⟨_, rfl, ?_⟩; replace HB := aM (below_step HB.out hb); (try clear hb)))
  go_ret2
  exact ⟨_, rfl, by first | exact Kd.R_nil _ _ _ _ _ | exact Kd.N_nil _ _ _ _ _ | exact Kd.V_nil _ _ _ _ _ | exact Kd.Q_nil _ _ _ _ _ | exact Kd.S_nil _ _ _ _ _, HB.out⟩

end Go.Proofs.YtppbohghongfmaaDoor.PN
