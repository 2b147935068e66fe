-- written by a program of this session's (wip/tools), over the kit's print
import Derived.Test.YtejkogiiocbmfaaPCx0
import Derived.Test.YtejkogiiocbmfaaPCx1
import Derived.Test.YtejkogiiocbmfaaPCx2
import Derived.Test.YtejkogiiocbmfaaPCx3
import Derived.Test.YtejkogiiocbmfaaPCx4
import Derived.Test.YtejkogiiocbmfaaPCx5
import Derived.Test.YtejkogiiocbmfaaPCx6
import Derived.Test.YtejkogiiocbmfaaPCx7
import Derived.Test.YtejkogiiocbmfaaPCx8
import Derived.Test.YtejkogiiocbmfaaPCx9
import Derived.Test.YtejkogiiocbmfaaPCx10
import Derived.Test.YtejkogiiocbmfaaPCx11
import Derived.Test.YtejkogiiocbmfaaPCx12
import Derived.Test.YtejkogiiocbmfaaPCx20
-- squeezed
-- squeezed twice
namespace Go.Proofs.Ytejkogiiocbmfaa.PC
open Go.RowKit Go.Proofs.YtejkogiiocbmfaaW.PrintWords Go.Proofs.YtejkogiiocbmfaaW.PrintLast Go.Proofs.YtejkogiiocbmfaaW.PrintMore
attribute [local go_sem] max2_int min2_int max_two min_two max_three min_three max_four min_four   -- for this text's walks alone
set_option linter.unusedVariables false
set_option linter.unusedSimpArgs false

/-! ### spec_l1Least: function 65 -/
def spec_l1Least.f (a0 : Int) (a1 : Int) : Option (Int) := if a0 < a1 then (some a0) else (some a1)
set_option maxHeartbeats 8000000 in
set_option maxRecDepth 100000 in
theorem spec_l1Least.calls (a0 : Int) (a1 : Int) (r : Int) (w : World) (h : spec_l1Least.f a0 a1 = some r) :
  Calls Try.prog 65 #[.int .i64 a0, .int .i64 a1] w fun e w' => e = .returned (.int .i64 r) ∧ Drawn0 w w' := by
 have H : (if a0 < a1 then (some a0) else (some a1)) = some r := h
 clear h
 by_cases c3 : a0 < a1
 ·rw [if_pos c3] at H
  have c3b0 : decide (a0 < a1) = true := decide_eq_true c3
  clear c3
  obtain rfl := Option.some.inj H
  go_enter Try.func65, Try.ntmps65
  go_wp2
  go_ret
  exact ⟨by first | rfl | (simp; done) | (simp [*]; done), by repeat (first | exact Drawn0.refl _ | apply Drawn0.step)⟩
 ·rw [if_neg c3] at H
  have c3b0 : decide (a0 < a1) = false := decide_eq_false c3
  clear c3
  obtain rfl := Option.some.inj H
  go_enter Try.func65, Try.ntmps65
  go_wp2
  go_ret
  exact ⟨by first | rfl | (simp; done) | (simp [*]; done), by repeat (first | exact Drawn0.refl _ | apply Drawn0.step)⟩

/-! ### spec_CountSlideWays: function 31 -/
mutual
def spec_CountSlideWays.l0 : Nat → ByteArray → List Int → List Int → List ByteArray → Int → Int → List Int → List (S111) → Option (Int × Bool)
 | 0, _, _, _, _, _, _, _, _ => none
 | k + 1, x2, x8, x10, x39, x40, x41, x366000, x366001 => if x41 < x40 then (if 0 ≤ x41 then (if x41 < (x39.length : Int) then ((spec_boNumber.f k x366000 x366001 (rdOf ByteArray.empty x39 x41)).bind fun t381 => ((spec_boSlides.f k x366000 x366001 (rdOf ByteArray.empty x39 x41)).bind fun t382 => (spec_CountSlideWays.l1 k x2 x8 x10 (rdOf ByteArray.empty x39 x41) t381 x39 x40 x41 t382 (t382.length : Int) 0 x366000 x366001))) else (none)) else (none)) else ((spec_boNumber.f k x366000 x366001 x2).bind fun t378 => (if 0 ≤ t378 then (if t378 < (x10.length : Int) then (if (rd x10 t378) > 1000000000000000 then (some (0, false)) else (some (rd x10 t378, true))) else (none)) else (none)))
def spec_CountSlideWays.l1 : Nat → ByteArray → List Int → List Int → ByteArray → Int → List ByteArray → Int → Int → List (S35) → Int → Int → List Int → List (S111) → Option (Int × Bool)
 | 0, _, _, _, _, _, _, _, _, _, _, _, _, _ => none
 | k + 1, x2, x8, x10, x12, x13, x39, x40, x41, x50, x51, x52, x366000, x366001 => if x52 < x51 then (if 0 ≤ x52 then (if x52 < (x50.length : Int) then ((spec_boPut.f k x366000 x366001 x12 ((rd_T35 x50 x52).f0) ((rd_T35 x50 x52).f1)).bind fun bt387 => ((spec_boNumber.f k x366000 x366001 bt387.1).bind fun t389 => (if 0 ≤ t389 then (if t389 < (x8.length : Int) then (if 0 ≤ x13 then (if x13 < (x8.length : Int) then (if (rd x8 t389) = (wrap64 ((rd x8 x13) + 1)) then (if t389 < (x10.length : Int) then (if x13 < (x10.length : Int) then ((spec_l1Least.f 1000000000000001 (wrap64 ((rd x10 t389) + (rd x10 x13)))).bind fun t394 => (spec_CountSlideWays.l1 k x2 x8 (x10.set (t389 : Int).toNat t394) x12 x13 x39 x40 x41 x50 x51 (wrap64 (x52 + 1)) x366000 x366001)) else (none)) else (none)) else (spec_CountSlideWays.l1 k x2 x8 x10 x12 x13 x39 x40 x41 x50 x51 (wrap64 (x52 + 1)) x366000 x366001)) else (none)) else (none)) else (none)) else (none)))) else (none)) else (none)) else (spec_CountSlideWays.l0 k x2 x8 x10 x39 x40 (wrap64 (x41 + 1)) x366000 x366001)
end
def spec_CountSlideWays.f (k : Nat) (l0_0 : List Int) (l0_1 : List (S111)) (a1 : ByteArray) (a2 : ByteArray) : Option (Int × Bool) := (spec_boTwo.f k l0_0 l0_1 a1 a2).bind fun t366 => (if t366 = true then ((spec_boFar.f k l0_0 l0_1 a1).bind fun bt367 => (if 0 ≤ (bt367.1.length : Int) then (if ((bt367.1.length : Int) : Int).toNat ≤ 35184372088832 then ((some (List.replicate ((bt367.1.length : Int) : Int).toNat 0 : List Int)).bind fun y373 => ((spec_boNumber.f k l0_0 l0_1 a1).bind fun t376 => (if 0 ≤ t376 then (if t376 < (y373.length : Int) then (spec_CountSlideWays.l0 k a2 bt367.1 (y373.set (t376 : Int).toNat 1) bt367.2 (bt367.2.length : Int) 0 l0_0 l0_1) else (none)) else (none)))) else (none)) else (none))) else (some (0, false)))
theorem spec_CountSlideWays.mono_l : ∀ k, (∀ y0 y1 y2 y3 y4 y5 y6 y7, LeO (spec_CountSlideWays.l0 k y0 y1 y2 y3 y4 y5 y6 y7) (spec_CountSlideWays.l0 (k + 1) y0 y1 y2 y3 y4 y5 y6 y7)) ∧ (∀ y0 y1 y2 y3 y4 y5 y6 y7 y8 y9 y10 y11 y12, LeO (spec_CountSlideWays.l1 k y0 y1 y2 y3 y4 y5 y6 y7 y8 y9 y10 y11 y12) (spec_CountSlideWays.l1 (k + 1) y0 y1 y2 y3 y4 y5 y6 y7 y8 y9 y10 y11 y12))
 | 0 => ⟨fun _ _ _ _ _ _ _ _ r h => by simp [spec_CountSlideWays.l0] at h, fun _ _ _ _ _ _ _ _ _ _ _ _ _ r h => by simp [spec_CountSlideWays.l1] at h⟩
 | k + 1 => by
  obtain ⟨ih0, ih1⟩ := spec_CountSlideWays.mono_l k
  refine ⟨?_, ?_⟩
  ·intro y0 y1 y2 y3 y4 y5 y6 y7
   unfold spec_CountSlideWays.l0
   repeat' first
   | (with_reducible exact ih0 _ _ _ _ _ _ _ _)
   | (with_reducible exact ih1 _ _ _ _ _ _ _ _ _ _ _ _ _)
   | (with_reducible exact spec_boFar.mono _ _ _ _)
   | (with_reducible exact spec_boNumber.mono _ _ _ _)
   | (with_reducible exact spec_boPut.mono _ _ _ _ _ _)
   | (with_reducible exact spec_boSlides.mono _ _ _ _)
   | (with_reducible exact spec_boTwo.mono _ _ _ _ _)
   | (with_reducible exact LeO.refl _)
   | (with_reducible exact LeO.none _)
   | (with_reducible refine LeO.ite ?_ ?_)
   | (with_reducible refine LeO.bind ?_ (fun _ => ?_))
   | exact ih0 _ _ _ _ _ _ _ _
   | exact ih1 _ _ _ _ _ _ _ _ _ _ _ _ _
   | exact spec_boFar.mono _ _ _ _
   | exact spec_boNumber.mono _ _ _ _
   | exact spec_boPut.mono _ _ _ _ _ _
   | exact spec_boSlides.mono _ _ _ _
   | exact spec_boTwo.mono _ _ _ _ _
   | exact LeO.none _
   | refine LeO.ite ?_ ?_
   | refine LeO.bind ?_ (fun _ => ?_)
  ·intro y0 y1 y2 y3 y4 y5 y6 y7 y8 y9 y10 y11 y12
   unfold spec_CountSlideWays.l1
   repeat' first
   | (with_reducible exact ih0 _ _ _ _ _ _ _ _)
   | (with_reducible exact ih1 _ _ _ _ _ _ _ _ _ _ _ _ _)
   | (with_reducible exact spec_boFar.mono _ _ _ _)
   | (with_reducible exact spec_boNumber.mono _ _ _ _)
   | (with_reducible exact spec_boPut.mono _ _ _ _ _ _)
   | (with_reducible exact spec_boSlides.mono _ _ _ _)
   | (with_reducible exact spec_boTwo.mono _ _ _ _ _)
   | (with_reducible exact LeO.refl _)
   | (with_reducible exact LeO.none _)
   | (with_reducible refine LeO.ite ?_ ?_)
   | (with_reducible refine LeO.bind ?_ (fun _ => ?_))
   | exact ih0 _ _ _ _ _ _ _ _
   | exact ih1 _ _ _ _ _ _ _ _ _ _ _ _ _
   | exact spec_boFar.mono _ _ _ _
   | exact spec_boNumber.mono _ _ _ _
   | exact spec_boPut.mono _ _ _ _ _ _
   | exact spec_boSlides.mono _ _ _ _
   | exact spec_boTwo.mono _ _ _ _ _
   | exact LeO.none _
   | refine LeO.ite ?_ ?_
   | refine LeO.bind ?_ (fun _ => ?_)
theorem spec_CountSlideWays.mono : ∀ a0 a1 a2 a3 k, LeO (spec_CountSlideWays.f k a0 a1 a2 a3) (spec_CountSlideWays.f (k + 1) a0 a1 a2 a3) := by
 intro a0 a1 a2 a3 k
 obtain ⟨ih0, ih1⟩ := spec_CountSlideWays.mono_l k
 unfold spec_CountSlideWays.f
 repeat' first
   | (with_reducible exact ih0 _ _ _ _ _ _ _ _)
   | (with_reducible exact ih1 _ _ _ _ _ _ _ _ _ _ _ _ _)
   | (with_reducible exact spec_boFar.mono _ _ _ _)
   | (with_reducible exact spec_boNumber.mono _ _ _ _)
   | (with_reducible exact spec_boPut.mono _ _ _ _ _ _)
   | (with_reducible exact spec_boSlides.mono _ _ _ _)
   | (with_reducible exact spec_boTwo.mono _ _ _ _ _)
   | (with_reducible exact LeO.refl _)
   | (with_reducible exact LeO.none _)
   | (with_reducible refine LeO.ite ?_ ?_)
   | (with_reducible refine LeO.bind ?_ (fun _ => ?_))
   | exact ih0 _ _ _ _ _ _ _ _
   | exact ih1 _ _ _ _ _ _ _ _ _ _ _ _ _
   | exact spec_boFar.mono _ _ _ _
   | exact spec_boNumber.mono _ _ _ _
   | exact spec_boPut.mono _ _ _ _ _ _
   | exact spec_boSlides.mono _ _ _ _
   | exact spec_boTwo.mono _ _ _ _ _
   | exact LeO.none _
   | refine LeO.ite ?_ ?_
   | refine LeO.bind ?_ (fun _ => ?_)
def spec_CountSlideWays.T15 : Bool × List (List Nat × List Nat) := (true, [([], []), ([], []), ([0, 1], [0, 1]), ([2], [2]), ([], []), ([], []), ([4, 5], [4, 5]), ([6], [6]), ([7], [7]), ([3, 8], [3, 8])])
def spec_CountSlideWays.B15 : List Nat := [0, 0, 3, 7, 0, 0, 48, 112, 240, 511]
theorem spec_CountSlideWays.tab15 : rtab .any (opsOf Try.f31 15) = spec_CountSlideWays.T15 := by kernel_rfl
theorem spec_CountSlideWays.bits15 : waitsOk spec_CountSlideWays.T15.2 spec_CountSlideWays.B15 = true := by kernel_rfl
def spec_CountSlideWays.T16 : Bool × List (List Nat × List Nat) := (true, [([], []), ([], []), ([], []), ([], []), ([2, 3], [2, 3]), ([4], [4]), ([], []), ([], []), ([6, 7], [6, 7]), ([8], [8]), ([5, 9], [5, 9]), ([10], [10]), ([0, 1, 0, 1, 2, 3, 4, 5, 6, 7, 8, 9, 10, 11], [0, 1]), ([12, 11, 11, 0, 1, 2, 3, 4, 5, 6, 7, 8, 9, 10, 11], [11, 12])])
def spec_CountSlideWays.B16 : List Nat := [0, 0, 0, 0, 12, 28, 0, 0, 192, 448, 1020, 2044, 4095, 8191]
theorem spec_CountSlideWays.tab16 : rtab .any (opsOf Try.f31 16) = spec_CountSlideWays.T16 := by kernel_rfl
theorem spec_CountSlideWays.bits16 : waitsOk spec_CountSlideWays.T16.2 spec_CountSlideWays.B16 = true := by kernel_rfl
set_option maxHeartbeats 8000000 in
set_option maxRecDepth 100000 in
theorem spec_CountSlideWays.calls (k : Nat) (A0_0 : Option Addr) (c0_0 : Nat) (l0_0 : List Int) (A0_1 : Option Addr) (c0_1 : Nat) (l0_1 : List (S111)) (a1 : ByteArray) (a2 : ByteArray) (r1 : Int) (r2 : Bool) (w : World) (hr0_0 : Kd.C (Kd.int .i64) w A0_0 l0_0.length l0_0) (hc0_0 : l0_0.length ≤ c0_0) (hr0_1 : Kd.C k111 w A0_1 l0_1.length l0_1) (hc0_1 : l0_1.length ≤ c0_1) (h : spec_CountSlideWays.f k l0_0 l0_1 a1 a2 = some (r1, r2)) :
  Calls Try.prog 31 #[.agg #[.slice A0_0 l0_0.length c0_0, .slice A0_1 l0_1.length c0_1], .string a1, .string a2] w fun e w' => e = .returned (.tuple #[.int .i64 r1, .bool r2]) ∧ Below w.heap.size w w' := by
 have hu33 := Try.underlying33
 have hu35 := Try.underlying35
 have HR0_0 := aM hr0_0
 have HC0_0 := aM hc0_0
 clear hr0_0 hc0_0
 have HR0_1 := aM hr0_1
 have HC0_1 := aM hc0_1
 clear hr0_1 hc0_1
 have HB := aM (Below.refl w.heap.size w)
 have H : ((spec_boTwo.f k l0_0 l0_1 a1 a2).bind fun t366 => (if t366 = true then ((spec_boFar.f k l0_0 l0_1 a1).bind fun bt367 => (if 0 ≤ (bt367.1.length : Int) then (if ((bt367.1.length : Int) : Int).toNat ≤ 35184372088832 then ((some (List.replicate ((bt367.1.length : Int) : Int).toNat 0 : List Int)).bind fun y373 => ((spec_boNumber.f k l0_0 l0_1 a1).bind fun t376 => (if 0 ≤ t376 then (if t376 < (y373.length : Int) then (spec_CountSlideWays.l0 k a2 bt367.1 (y373.set (t376 : Int).toNat 1) bt367.2 (bt367.2.length : Int) 0 l0_0 l0_1) else (none)) else (none)))) else (none)) else (none))) else (some (0, false)))) = some (r1, r2) := h
 clear h
 replace H := Option.bind_eq_some_iff.mp H
 obtain ⟨t366, A40, H⟩ := H
 replace H : (if t366 = true then ((spec_boFar.f k l0_0 l0_1 a1).bind fun bt367 => (if 0 ≤ (bt367.1.length : Int) then (if ((bt367.1.length : Int) : Int).toNat ≤ 35184372088832 then ((some (List.replicate ((bt367.1.length : Int) : Int).toNat 0 : List Int)).bind fun y373 => ((spec_boNumber.f k l0_0 l0_1 a1).bind fun t376 => (if 0 ≤ t376 then (if t376 < (y373.length : Int) then (spec_CountSlideWays.l0 k a2 bt367.1 (y373.set (t376 : Int).toNat 1) bt367.2 (bt367.2.length : Int) 0 l0_0 l0_1) else (none)) else (none)))) else (none)) else (none))) else (some (0, false))) = some (r1, r2) := H
 have A4 := aM A40
 clear A40
 by_cases c5 : t366 = true
 ·subst c5
  have H1 : ((spec_boFar.f k l0_0 l0_1 a1).bind fun bt367 => (if 0 ≤ (bt367.1.length : Int) then (if ((bt367.1.length : Int) : Int).toNat ≤ 35184372088832 then ((some (List.replicate ((bt367.1.length : Int) : Int).toNat 0 : List Int)).bind fun y373 => ((spec_boNumber.f k l0_0 l0_1 a1).bind fun t376 => (if 0 ≤ t376 then (if t376 < (y373.length : Int) then (spec_CountSlideWays.l0 k a2 bt367.1 (y373.set (t376 : Int).toNat 1) bt367.2 (bt367.2.length : Int) 0 l0_0 l0_1) else (none)) else (none)))) else (none)) else (none))) = some (r1, r2) := by rw [if_pos rfl] at H; exact H
  clear H; have H := H1; clear H1
  replace H := Option.bind_eq_some_iff.mp H
  obtain ⟨⟨t367, t370⟩, A60, H⟩ := H
  replace H : (if 0 ≤ (t367.length : Int) then (if ((t367.length : Int) : Int).toNat ≤ 35184372088832 then ((some (List.replicate ((t367.length : Int) : Int).toNat 0 : List Int)).bind fun y373 => ((spec_boNumber.f k l0_0 l0_1 a1).bind fun t376 => (if 0 ≤ t376 then (if t376 < (y373.length : Int) then (spec_CountSlideWays.l0 k a2 t367 (y373.set (t376 : Int).toNat 1) t370 (t370.length : Int) 0 l0_0 l0_1) else (none)) else (none)))) else (none)) else (none)) = some (r1, r2) := H
  have A6 := aM A60
  clear A60
  by_cases c7 : 0 ≤ (t367.length : Int)
  ·rw [if_pos c7] at H
   have c7b0 := eq_true c7
   have c7b1 : decide (0 ≤ (t367.length : Int)) = true := decide_eq_true c7
   clear c7
   by_cases c8 : ((t367.length : Int) : Int).toNat ≤ 35184372088832
   ·rw [if_pos c8] at H
    have c8b0 := eq_true c8
    have c8b1 : decide (((t367.length : Int) : Int).toNat ≤ 35184372088832) = true := decide_eq_true c8
    clear c8
    obtain ⟨y373, hy373⟩ : ∃ y_ : List Int, y_ = (List.replicate ((t367.length : Int) : Int).toNat 0) := ⟨_, rfl⟩
    replace H : ((spec_boNumber.f k l0_0 l0_1 a1).bind fun t376 => (if 0 ≤ t376 then (if t376 < (y373.length : Int) then (spec_CountSlideWays.l0 k a2 t367 (y373.set (t376 : Int).toNat 1) t370 (t370.length : Int) 0 l0_0 l0_1) else (none)) else (none))) = some (r1, r2) := by first | (rw [hy373]; with_reducible exact H) | (have H2_ := (Option.bind_some _ _).symm.trans H; rw [hy373]; with_reducible exact H2_) | (have H2_ := (Option.bind_some _ _).symm.trans H; with_reducible exact H2_) | with_reducible exact H | (rw [hy373]; exact H) | exact H
    have Ny373 := aM hy373
    clear hy373
    replace H := Option.bind_eq_some_iff.mp H
    obtain ⟨t376, A90, H⟩ := H
    replace H : (if 0 ≤ t376 then (if t376 < (y373.length : Int) then (spec_CountSlideWays.l0 k a2 t367 (y373.set (t376 : Int).toNat 1) t370 (t370.length : Int) 0 l0_0 l0_1) else (none)) else (none)) = some (r1, r2) := H
    have A9 := aM A90
    clear A90
    by_cases c10 : 0 ≤ t376
    ·rw [if_pos c10] at H
     have c10b0 : decide (0 ≤ t376) = true := decide_eq_true c10
     clear c10
     by_cases c11 : t376 < (y373.length : Int)
     ·rw [if_pos c11] at H
      have c11b0 : decide (t376 < (y373.length : Int)) = true := decide_eq_true c11
      clear c11
      obtain ⟨y377, hy377⟩ : ∃ y_ : List Int, y_ = (y373.set (t376 : Int).toNat 1) := ⟨_, rfl⟩
      replace H : (spec_CountSlideWays.l0 k a2 t367 y377 t370 (t370.length : Int) 0 l0_0 l0_1) = some (r1, r2) := by first | (rw [hy377]; with_reducible exact H) | (have H2_ := (Option.bind_some _ _).symm.trans H; rw [hy377]; with_reducible exact H2_) | (have H2_ := (Option.bind_some _ _).symm.trans H; with_reducible exact H2_) | with_reducible exact H | (rw [hy377]; exact H) | exact H
      have Ny377 := aM hy377
      clear hy377
      have H' := aM H
      clear H
      go_enter Try.func31, Try.ntmps31
      go_wp2_with (first | ((with_reducible refine gate_dst (N := 3) rfl ?_); refine box_event ?hg (N := 3) ?hd (cs := #[.slice A0_0 l0_0.length c0_0, .slice A0_1 l0_1.length c0_1]) (t := 33) ?hr ?_; (case hd => rfl); (case hg => rfl); (case hr => first | (go_simp; done) | (go_simp; rfl)); intro gb365 hg w13 hbox hb; have n0_ := aM (below_step (by repeat (first | (with_reducible first | exact HB.out | apply bA | apply bN | apply bD) | exact HB.out)) hb); have n1_ := aM (hbox); have n2_ := aM ((by rw [hg]; exact (below_size (by repeat (first | (with_reducible first | exact HB.out | apply bA | apply bN | apply bD) | exact HB.out))) : w.heap.size ≤ gb365)); have n3_ := aM ((by rw [hg]; exact (below_size (by repeat (first | (with_reducible first | exact HB.out | apply bA | apply bN | apply bD) | exact HB.out))) : w.heap.size ≤ gb365)); clear HB; have HB := n0_; have BK365 := n1_; have GW365 := n2_; have GE365 := n3_; clear n0_ n1_ n2_ n3_; clear hb hbox hg; have hcz14_0 : w13.cell? ⟨gb365, 0, none⟩ = some (.slice A0_0 l0_0.length c0_0) := (blk_cell BK365.out 0).trans rfl; have hcz14_1 : w13.cell? ⟨gb365, 1, none⟩ = some (.slice A0_1 l0_1.length c0_1) := (blk_cell BK365.out 1).trans rfl; have hfz14_0 := blk_frozen BK365.out 0; have hfz14_1 := blk_frozen BK365.out 1) | ((with_reducible refine gate_callee (f := 56) rfl ?_); refine goesL_ (some 23) rfl rfl Try.func56 (by kernel_rfl) rfl #[.agg #[.slice A0_0 l0_0.length c0_0, .slice A0_1 l0_1.length c0_1], .string a1, .string a2] rfl (by (try simp only [List.map_toArray, List.map_cons, List.map_nil]); first | done | rfl | (simp only [List.length_drop, List.length_take]; rfl)) ?_; (with_reducible refine (spec_boTwo.calls k _ _ l0_0 _ _ l0_1 a1 a2 true _ ?side1 ?side2 ?side3 ?side4 A4.out).mono ?_); (case side1 => repeat (first | exact (Kd.C_below HR0_0.out HB.out) | (with_reducible refine cA ?_ _) | (with_reducible refine cN ?_ _) | (with_reducible refine cD ?_))); (case side2 => exact HC0_0.out); (case side3 => repeat (first | exact (Kd.C_below HR0_1.out HB.out) | (with_reducible refine cA ?_ _) | (with_reducible refine cN ?_ _) | (with_reducible refine cD ?_))); (case side4 => exact HC0_1.out); rintro e w15 ⟨rfl, hb⟩; refine ⟨_, rfl, ?_⟩; have n0_ := aM (blk_below (g := gb365) (o := .cells #[.slice A0_0 l0_0.length c0_0, .slice A0_1 l0_1.length c0_1] 33 (0, 0)) (by (with_reducible repeat (first | refine kN ?_ _ | refine kD ?_ | refine kA ?_ _)); exact BK365.out) hb); have n1_ := aM (below_step (by repeat (first | (with_reducible first | exact HB.out | apply bA | apply bN | apply bD | refine bS ?_ GE365.out) | exact HB.out)) hb); clear BK365; clear HB; have BK365 := n0_; have HB := n1_; clear n0_ n1_; (try clear hb); (try clear hb2); (try clear hk); (try clear hi); have hcz16_0 : w15.cell? ⟨gb365, 0, none⟩ = some (.slice A0_0 l0_0.length c0_0) := (blk_cell BK365.out 0).trans rfl; have hcz16_1 : w15.cell? ⟨gb365, 1, none⟩ = some (.slice A0_1 l0_1.length c0_1) := (blk_cell BK365.out 1).trans rfl; have hfz16_0 := blk_frozen BK365.out 0; have hfz16_1 := blk_frozen BK365.out 1) | ((with_reducible refine gate_callee (f := 54) rfl ?_); refine goesL_ (some 28) rfl rfl Try.func54 (by kernel_rfl) rfl #[.agg #[.slice A0_0 l0_0.length c0_0, .slice A0_1 l0_1.length c0_1], .string a1] rfl (by (try simp only [List.map_toArray, List.map_cons, List.map_nil]); first | done | rfl | (simp only [List.length_drop, List.length_take]; rfl)) ?_; (with_reducible refine (spec_boFar.calls k _ _ l0_0 _ _ l0_1 a1 t367 t370 _ ?side1 ?side2 ?side3 ?side4 A6.out).mono ?_); (case side1 => repeat (first | exact (Kd.C_below HR0_0.out HB.out) | (with_reducible refine cA ?_ _) | (with_reducible refine cN ?_ _) | (with_reducible refine cD ?_))); (case side2 => exact HC0_0.out); (case side3 => repeat (first | exact (Kd.C_below HR0_1.out HB.out) | (with_reducible refine cA ?_ _) | (with_reducible refine cN ?_ _) | (with_reducible refine cD ?_))); (case side4 => exact HC0_1.out); rintro e w17 ⟨v368, v371, rfl, ho0, ho1, hb⟩; refine ⟨_, rfl, ?_⟩; have n0_ := aM (Kd.R_lower ho0 (below_size (by repeat (first | (with_reducible first | exact HB.out | apply bA | apply bN | apply bD | refine bS ?_ GE365.out) | exact HB.out)))); have n1_ := aM (Kd.R_lower ho1 (below_size (by repeat (first | (with_reducible first | exact HB.out | apply bA | apply bN | apply bD | refine bS ?_ GE365.out) | exact HB.out)))); have n2_ := aM (blk_below (g := gb365) (o := .cells #[.slice A0_0 l0_0.length c0_0, .slice A0_1 l0_1.length c0_1] 33 (0, 0)) (by (with_reducible repeat (first | refine kN ?_ _ | refine kD ?_ | refine kA ?_ _)); exact BK365.out) hb); have n3_ := aM (below_step (by repeat (first | (with_reducible first | exact HB.out | apply bA | apply bN | apply bD | refine bS ?_ GE365.out) | exact HB.out)) hb); clear BK365; clear HB; have HO369 := n0_; have HO372 := n1_; have BK365 := n2_; have HB := n3_; clear n0_ n1_ n2_ n3_; (try clear hb); (try clear hb2); (try clear hk); (try clear hi); (try clear ho0); (try clear ho1); obtain ⟨Ao18, co18, eo18⟩ := Kd.R_slice HO369.out; subst eo18) | ((with_reducible refine gate_dst (N := 33) rfl ?_); refine Kd.R_make (Kd.int .i64) _ 3 rfl (N := 33) rfl 22 _ _ rfl (t367.length : Int) rfl rfl Try.underlying22 (.int .i64 0) 8 info3 rfl (by decide) (by omega) 0 (ok := fun _ => True) (okp := fun _ => True) rfl (fun _ hk => hk) trivial (of_decide_eq_true (by first | (with_reducible assumption) | assumption)) (Nat.le_trans (Nat.mul_le_mul_right _ (of_decide_eq_true (by first | (with_reducible assumption) | assumption) : (t367.length : Int).toNat ≤ 35184372088832)) (by omega)) (Below.refl _ _) (Nat.le_refl _) ?_; intro v374 w19 ho20 hb hg_ hnew_; clear hg_ hnew_; (first | rw [← Ny373.out] at ho20 | (simp only [Int.reduceToNat] at ho20; rw [← Ny373.out] at ho20)); have n0_ := aM (Kd.R_elder' (by (with_reducible repeat (first | apply rA | apply rN | apply rD)); exact HO369.out) (Kd.R_base ho20) hb); have n1_ := aM (Kd.R_below (by (with_reducible repeat (first | apply rA | apply rN | apply rD)); exact HO372.out) hb); have n2_ := aM (Kd.R_lower (Kd.R_new' ho20 (Kd.R_lt (by (with_reducible repeat (first | apply rA | apply rN | apply rD)); exact HO369.out))) (below_size (by repeat (first | (with_reducible first | exact HB.out | apply bA | apply bN | apply bD | refine bS ?_ GE365.out) | exact HB.out)))); have n3_ := aM (blk_below (g := gb365) (o := .cells #[.slice A0_0 l0_0.length c0_0, .slice A0_1 l0_1.length c0_1] 33 (0, 0)) (by (with_reducible repeat (first | refine kN ?_ _ | refine kD ?_ | refine kA ?_ _)); exact BK365.out) hb); have n4_ := aM (below_step (by repeat (first | (with_reducible first | exact HB.out | apply bA | apply bN | apply bD | refine bS ?_ GE365.out) | exact HB.out)) hb); clear HO369; clear HO372; clear BK365; clear HB; have HO369 := n0_; have HO372 := n1_; have HO375 := n2_; have BK365 := n3_; have HB := n4_; clear n0_ n1_ n2_ n3_ n4_; clear hb ho20; have hcz21_0 : w19.cell? ⟨gb365, 0, none⟩ = some (.slice A0_0 l0_0.length c0_0) := (blk_cell BK365.out 0).trans rfl; have hcz21_1 : w19.cell? ⟨gb365, 1, none⟩ = some (.slice A0_1 l0_1.length c0_1) := (blk_cell BK365.out 1).trans rfl; have hfz21_0 := blk_frozen BK365.out 0; have hfz21_1 := blk_frozen BK365.out 1) | ((with_reducible refine gate_callee (f := 57) rfl ?_); refine goesL_ (some 37) rfl rfl Try.func57 (by kernel_rfl) rfl #[.agg #[.slice A0_0 l0_0.length c0_0, .slice A0_1 l0_1.length c0_1], .string a1] rfl (by (try simp only [List.map_toArray, List.map_cons, List.map_nil]); first | done | rfl | (simp only [List.length_drop, List.length_take]; rfl)) ?_; (with_reducible refine (spec_boNumber.calls k _ _ l0_0 _ _ l0_1 a1 t376 _ ?side1 ?side2 ?side3 ?side4 A9.out).mono ?_); (case side1 => repeat (first | exact (Kd.C_below HR0_0.out HB.out) | (with_reducible refine cA ?_ _) | (with_reducible refine cN ?_ _) | (with_reducible refine cD ?_))); (case side2 => exact HC0_0.out); (case side3 => repeat (first | exact (Kd.C_below HR0_1.out HB.out) | (with_reducible refine cA ?_ _) | (with_reducible refine cN ?_ _) | (with_reducible refine cD ?_))); (case side4 => exact HC0_1.out); rintro e w22 ⟨rfl, hb⟩; refine ⟨_, rfl, ?_⟩; have n0_ := aM (Kd.R_below (by (with_reducible repeat (first | apply rA | apply rN | apply rD)); exact HO369.out) hb); have n1_ := aM (Kd.R_below (by (with_reducible repeat (first | apply rA | apply rN | apply rD)); exact HO372.out) hb); have n2_ := aM (Kd.R_below (by (with_reducible repeat (first | apply rA | apply rN | apply rD)); exact HO375.out) hb); have n3_ := aM (blk_below (g := gb365) (o := .cells #[.slice A0_0 l0_0.length c0_0, .slice A0_1 l0_1.length c0_1] 33 (0, 0)) (by (with_reducible repeat (first | refine kN ?_ _ | refine kD ?_ | refine kA ?_ _)); exact BK365.out) hb); have n4_ := aM (below_step (by repeat (first | (with_reducible first | exact HB.out | apply bA | apply bN | apply bD | refine bS ?_ GE365.out) | exact HB.out)) hb); clear HO369; clear HO372; clear HO375; clear BK365; clear HB; have HO369 := n0_; have HO372 := n1_; have HO375 := n2_; have BK365 := n3_; have HB := n4_; clear n0_ n1_ n2_ n3_ n4_; (try clear hb); (try clear hb2); (try clear hk); (try clear hi); have p12 : 0 ≤ (t376 : Int) := of_decide_eq_true (by first | (with_reducible assumption) | assumption); have q12 : (t376 : Int) < ((y373.length : Int) : Int) := of_decide_eq_true (by first | (with_reducible assumption) | assumption); obtain ⟨go12, co12, eo12, gb12, gl12, cl12, HG12⟩ := Kd.R_form HO375.out (by omega); (first | cases eo12 | (injection eo12 with ea_ en_ ec_; (first | subst ea_ | (injection ea_ with ea_; subst ea_)); subst ec_; clear en_)); have GB12 := aM gb12; have GG12 := aM HG12; clear gb12 gl12 HG12; obtain ⟨hx12_0, hf12_0⟩ := Kd.R_celln 0 HO375.out (t376 : Int) p12 q12; replace p12 := eq_true p12; replace q12 := eq_true q12; have n_ := aM (Kd.R_mono (ok' := (fun k_ => some k_ ≠ (.slice Ao18 t367.length co18 : Value).ownBlock)) HO375.out (fun k_ hk => hk.2)); clear HO375; have HO375 := n_; clear n_; obtain ⟨hy23_, hz23_⟩ := Kd.R_celln 0 HO375.out (t376 : Int) (of_decide_eq_true (by first | (with_reducible assumption) | assumption)) (of_decide_eq_true (by first | (with_reducible assumption) | assumption)); have HP23 := Kd.R_putg HO375.out (t376 : Int) 1) | ((with_reducible refine gate_store (t := 3) (p := 38) rfl ?_); refine store_event (t := 3) (p := 38) (v := ?vo_w24) (w1 := (w22.setCell ⟨go12, (t376 : Int).toNat, none⟩ (.int .i64 1))) ?hg ?ho ?hn ?hr ?_; (case ho => rfl); (case hg => rfl); (case hn => rfl); (case hr => first | (go_simp; done) | (go_simp; rfl)); intro w24 hw; have hg : w22.grownBy w24 (some go12) := (by rw [hw]; exact HP23.2); have hp_ : Kd.R (Kd.int .i64) 3 w24 w.heap.size (fun k_ => some k_ ≠ (.slice Ao18 t367.length co18 : Value).ownBlock) (.slice (some ⟨go12, 0, none⟩) y373.length co12) y377 := (by rw [hw, Ny377.out]; exact HP23.1); clear HP23; have n0_ := aM (blk_grown (g := gb365) (o := .cells #[.slice A0_0 l0_0.length c0_0, .slice A0_1 l0_1.length c0_1] 33 (0, 0)) (by (with_reducible repeat (first | refine kN ?_ _ | refine kD ?_ | refine kA ?_ _)); exact BK365.out) hg (Kd.R_ne HO375.out BK365.out (by decide))); have n1_ := aM (Kd.R_after (v := (.slice (some ⟨go12, 0, none⟩) y373.length co12)) (v1 := (.slice (some ⟨go12, 0, none⟩) y373.length co12)) (ok := (fun _ => True)) (by (with_reducible repeat (first | apply rA | apply rN | apply rD)); exact HO369.out) hg (.inl rfl)); have n2_ := aM (Kd.R_over' (v := (.slice (some ⟨go12, 0, none⟩) y373.length co12)) (by (with_reducible repeat (first | apply rA | apply rN | apply rD)); exact HO372.out) (Kd.R_typed HO375.out) (by decide) hg); have n3_ := aM (hp_); have n4_ := aM ((by rw [hw]; exact below_set (HB.out) GB12.out : Below w.heap.size w w24)); clear BK365; clear HO369; clear HO372; clear HO375; clear HB; have BK365 := n0_; have HO369 := n1_; have HO372 := n2_; have HO375 := n3_; have HB := n4_; clear n0_ n1_ n2_ n3_ n4_; clear hg hw hp_; obtain ⟨Ao25, co25, eo25⟩ := Kd.R_slice HO372.out; subst eo25))
      go_loopg [41] k (fun kq v41 w' => ∃ (x10_1 : List Int) (x41_1 : Int), v41 = .int .i64 x41_1 ∧ Aside0 (spec_CountSlideWays.l0 kq a2 t367 x10_1 t370 (t370.length : Int) x41_1 l0_0 l0_1 = some (r1, r2)) ∧ Aside0 (kq ≤ k) ∧ Aside0 (Kd.R (Kd.int .i64) 3 w' w.heap.size (fun k_ => some k_ ≠ ((.slice (some ⟨go12, 0, none⟩) y373.length co12) : Value).ownBlock) (.slice Ao18 t367.length co18) t367) ∧ Aside0 (Kd.R (Kd.int .i64) 3 w' w.heap.size (fun k_ => some k_ ≠ ((.slice Ao18 t367.length co18) : Value).ownBlock) (.slice (some ⟨go12, 0, none⟩) y373.length co12) x10_1) ∧ Aside0 (Kd.R Kd.string 9 w' w.heap.size (fun _ => True) (.slice Ao25 t370.length co25) t370) ∧ Aside0 (w'.heap[gb365]? = some (.cells #[(.slice A0_0 l0_0.length c0_0), (.slice A0_1 l0_1.length c0_1)] 33 (0, 0))) ∧ Aside0 (Below w.heap.size w w'))
      case atStart => exact ⟨(y377), (0), (by first | rfl | (simp; done) | (simp [*]; done)), H', ⟨Nat.le_refl _⟩, ⟨by (with_reducible repeat (first | apply rA | apply rN | apply rD)); exact Kd.R_mono HO369.out (fun _ hk => hk.2)⟩, ⟨by (with_reducible repeat (first | apply rA | apply rN | apply rD)); exact HO375.out⟩, ⟨by (with_reducible repeat (first | apply rA | apply rN | apply rD)); exact HO372.out⟩, ⟨by (with_reducible repeat (first | refine kN ?_ _ | refine kD ?_ | refine kA ?_ _)); exact BK365.out⟩, ⟨by repeat (first | (with_reducible first | exact HB.out | apply bA | apply bN | apply bD | refine bS ?_ GE365.out) | exact HB.out)⟩⟩
      case round =>
       clear H'
       try clear c1
       try clear p1
       try clear q1
       try clear hx1
       try clear p2
       try clear c3
       try clear c5
       try clear c7
       try clear c7b0
       try clear c7b1
       try clear c8
       try clear c8b0
       try clear c8b1
       try clear c10
       try clear c10b0
       try clear c11
       try clear c11b0
       try clear p12
       try clear q12
       try clear hx12
       try clear hf12
       try clear hcz14_0
       try clear hcz14_1
       try clear hcz16_0
       try clear hcz16_1
       try clear hcz21_0
       try clear hcz21_1
       try clear hfz14_0
       try clear hfz14_1
       try clear hfz16_0
       try clear hfz16_1
       try clear hfz21_0
       try clear hfz21_1
       try clear hx12_0
       try clear p12
       try clear q12
       obtain ⟨x10_1, x41_1, rfl, HA, HK1, HO_8, HO_10, HO_39, BK365, HB⟩ := hrel
       have hl10_1 := (Kd.R_reads' HO_10.out).1
       rw [hl10_1] at HO_10
       (try simp only [hl10_1])
       (try simp only [hl10_1] at BK365)
       (try simp only [hl10_1] at HO_8)
       (try simp only [hl10_1] at HO_39)
       cases gk with
       | zero => exact absurd HA.out (by simp [spec_CountSlideWays.l0])
       | succ k1 =>
        have H := HA.out
        clear HA
        simp only [spec_CountSlideWays.l0] at H
        by_cases c26 : x41_1 < (t370.length : Int)
        ·rw [if_pos c26] at H
         have c26b0 : decide (x41_1 < (t370.length : Int)) = true := decide_eq_true c26
         (try (have c26m0 := c26b0; simp only [hl10_1] at c26m0))
         clear c26
         by_cases c27 : 0 ≤ x41_1
         ·rw [if_pos c27] at H
          have c27b0 : decide (0 ≤ x41_1) = true := decide_eq_true c27
          clear c27
          by_cases c28 : x41_1 < (t370.length : Int)
          ·rw [if_pos c28] at H
           have c28b0 : decide (x41_1 < (t370.length : Int)) = true := decide_eq_true c28
           (try (have c28m0 := c28b0; simp only [hl10_1] at c28m0))
           clear c28
           replace H := Option.bind_eq_some_iff.mp H
           obtain ⟨t381, A290, H⟩ := H
           replace H : ((spec_boSlides.f k1 l0_0 l0_1 (rdOf ByteArray.empty t370 x41_1)).bind fun t382 => (spec_CountSlideWays.l1 k1 a2 t367 x10_1 (rdOf ByteArray.empty t370 x41_1) t381 t370 (t370.length : Int) x41_1 t382 (t382.length : Int) 0 l0_0 l0_1)) = some (r1, r2) := H
           have A29 := aM A290
           clear A290
           replace H := Option.bind_eq_some_iff.mp H
           obtain ⟨t382, A300, H⟩ := H
           replace H : (spec_CountSlideWays.l1 k1 a2 t367 x10_1 (rdOf ByteArray.empty t370 x41_1) t381 t370 (t370.length : Int) x41_1 t382 (t382.length : Int) 0 l0_0 l0_1) = some (r1, r2) := H
           have A30 := aM A300
           clear A300
           have H' := aM H
           clear H
           have p380 : 0 ≤ (x41_1 : Int) := of_decide_eq_true (by first | (with_reducible assumption) | assumption)
           have q380 : x41_1 < (t370.length : Int) := of_decide_eq_true (by first | (with_reducible assumption) | assumption)
           obtain ⟨ad380, e380, hx380_0⟩ := Kd.at_string (Kd.R_reads' HO_39.out).2.2 x41_1 p380 q380
           cases e380
           replace p380 := eq_true p380
           replace q380 := eq_true q380
           have hcz31_0 : wr.cell? ⟨gb365, 0, none⟩ = some (.slice A0_0 l0_0.length c0_0) := (blk_cell BK365.out 0).trans rfl
           have hcz31_1 : wr.cell? ⟨gb365, 1, none⟩ = some (.slice A0_1 l0_1.length c0_1) := (blk_cell BK365.out 1).trans rfl
           have hfz31_0 := blk_frozen BK365.out 0
           have hfz31_1 := blk_frozen BK365.out 1
           go_wp2_with (first | ((with_reducible refine gate_callee (f := 57) rfl ?_); refine goesL_ (some 47) rfl rfl Try.func57 (by kernel_rfl) rfl #[.agg #[.slice A0_0 l0_0.length c0_0, .slice A0_1 l0_1.length c0_1], .string (rdOf ByteArray.empty t370 x41_1)] rfl (by (try simp only [List.map_toArray, List.map_cons, List.map_nil]); first | done | rfl | (simp only [List.length_drop, List.length_take]; rfl)) ?_; (with_reducible refine (spec_boNumber.calls k1 _ _ l0_0 _ _ l0_1 (rdOf ByteArray.empty t370 x41_1) t381 _ ?side1 ?side2 ?side3 ?side4 A29.out).mono ?_); (case side1 => repeat (first | exact (Kd.C_below HR0_0.out HB.out) | (with_reducible refine cA ?_ _) | (with_reducible refine cN ?_ _) | (with_reducible refine cD ?_))); (case side2 => exact HC0_0.out); (case side3 => repeat (first | exact (Kd.C_below HR0_1.out HB.out) | (with_reducible refine cA ?_ _) | (with_reducible refine cN ?_ _) | (with_reducible refine cD ?_))); (case side4 => exact HC0_1.out); rintro e w32 ⟨rfl, hb⟩; refine ⟨_, rfl, ?_⟩; have n0_ := aM (Kd.R_below (by (with_reducible repeat (first | apply rA | apply rN | apply rD)); exact HO_8.out) hb); have n1_ := aM (Kd.R_below (by (with_reducible repeat (first | apply rA | apply rN | apply rD)); exact HO_10.out) hb); have n2_ := aM (Kd.R_below (by (with_reducible repeat (first | apply rA | apply rN | apply rD)); exact HO_39.out) hb); have n3_ := aM (blk_below (g := gb365) (o := .cells #[.slice A0_0 l0_0.length c0_0, .slice A0_1 l0_1.length c0_1] 33 (0, 0)) (by (with_reducible repeat (first | refine kN ?_ _ | refine kD ?_ | refine kA ?_ _)); exact BK365.out) hb); have n4_ := aM (below_step (by repeat (first | (with_reducible first | exact HB.out | apply bA | apply bN | apply bD | refine bS ?_ GE365.out) | exact HB.out)) hb); clear HO_8; clear HO_10; clear HO_39; clear BK365; clear HB; have HO_8 := n0_; have HO_10 := n1_; have HO_39 := n2_; have BK365 := n3_; have HB := n4_; clear n0_ n1_ n2_ n3_ n4_; (try clear hb); (try clear hb2); (try clear hk); (try clear hi); have hcz33_0 : w32.cell? ⟨gb365, 0, none⟩ = some (.slice A0_0 l0_0.length c0_0) := (blk_cell BK365.out 0).trans rfl; have hcz33_1 : w32.cell? ⟨gb365, 1, none⟩ = some (.slice A0_1 l0_1.length c0_1) := (blk_cell BK365.out 1).trans rfl; have hfz33_0 := blk_frozen BK365.out 0; have hfz33_1 := blk_frozen BK365.out 1) | ((with_reducible refine gate_callee (f := 58) rfl ?_); refine goesL_ (some 50) rfl rfl Try.func58 (by kernel_rfl) rfl #[.agg #[.slice A0_0 l0_0.length c0_0, .slice A0_1 l0_1.length c0_1], .string (rdOf ByteArray.empty t370 x41_1)] rfl (by (try simp only [List.map_toArray, List.map_cons, List.map_nil]); first | done | rfl | (simp only [List.length_drop, List.length_take]; rfl)) ?_; (with_reducible refine (spec_boSlides.calls k1 _ _ l0_0 _ _ l0_1 (rdOf ByteArray.empty t370 x41_1) t382 _ ?side1 ?side2 ?side3 ?side4 A30.out).mono ?_); (case side1 => repeat (first | exact (Kd.C_below HR0_0.out HB.out) | (with_reducible refine cA ?_ _) | (with_reducible refine cN ?_ _) | (with_reducible refine cD ?_))); (case side2 => exact HC0_0.out); (case side3 => repeat (first | exact (Kd.C_below HR0_1.out HB.out) | (with_reducible refine cA ?_ _) | (with_reducible refine cN ?_ _) | (with_reducible refine cD ?_))); (case side4 => exact HC0_1.out); rintro e w34 ⟨v383, rfl, ho0, hb⟩; refine ⟨_, rfl, ?_⟩; have n0_ := aM (Kd.R_below (by (with_reducible repeat (first | apply rA | apply rN | apply rD)); exact HO_8.out) hb); have n1_ := aM (Kd.R_below (by (with_reducible repeat (first | apply rA | apply rN | apply rD)); exact HO_10.out) hb); have n2_ := aM (Kd.R_below (by (with_reducible repeat (first | apply rA | apply rN | apply rD)); exact HO_39.out) hb); have n3_ := aM (Kd.R_lower ho0 (below_size (by repeat (first | (with_reducible first | exact HB.out | apply bA | apply bN | apply bD | refine bS ?_ GE365.out) | exact HB.out)))); have n4_ := aM (blk_below (g := gb365) (o := .cells #[.slice A0_0 l0_0.length c0_0, .slice A0_1 l0_1.length c0_1] 33 (0, 0)) (by (with_reducible repeat (first | refine kN ?_ _ | refine kD ?_ | refine kA ?_ _)); exact BK365.out) hb); have n5_ := aM (below_step (by repeat (first | (with_reducible first | exact HB.out | apply bA | apply bN | apply bD | refine bS ?_ GE365.out) | exact HB.out)) hb); clear HO_8; clear HO_10; clear HO_39; clear BK365; clear HB; have HO_8 := n0_; have HO_10 := n1_; have HO_39 := n2_; have HO384 := n3_; have BK365 := n4_; have HB := n5_; clear n0_ n1_ n2_ n3_ n4_ n5_; (try clear hb); (try clear hb2); (try clear hk); (try clear hi); (try clear ho0); obtain ⟨Ao35, co35, eo35⟩ := Kd.R_slice HO384.out; subst eo35))
           go_loopg [52] k1 (fun kq v52 w' => ∃ (x10_2 : List Int) (x52_2 : Int), v52 = .int .i64 x52_2 ∧ Aside0 (spec_CountSlideWays.l1 kq a2 t367 x10_2 (rdOf ByteArray.empty t370 x41_1) t381 t370 (t370.length : Int) x41_1 t382 (t382.length : Int) x52_2 l0_0 l0_1 = some (r1, r2)) ∧ Aside0 (kq ≤ k1) ∧ Aside0 (Kd.R (Kd.int .i64) 3 w' w.heap.size (fun k_ => some k_ ≠ ((.slice (some ⟨go12, 0, none⟩) x10_1.length co12) : Value).ownBlock) (.slice Ao18 t367.length co18) t367) ∧ Aside0 (Kd.R (Kd.int .i64) 3 w' w.heap.size (fun k_ => some k_ ≠ ((.slice Ao18 t367.length co18) : Value).ownBlock) (.slice (some ⟨go12, 0, none⟩) x10_1.length co12) x10_2) ∧ Aside0 (Kd.R Kd.string 9 w' w.heap.size (fun _ => True) (.slice (some ad380) t370.length co25) t370) ∧ Aside0 (Kd.R k35 35 w' w.heap.size (fun _ => True) (.slice Ao35 t382.length co35) t382) ∧ Aside0 (w'.heap[gb365]? = some (.cells #[(.slice A0_0 l0_0.length c0_0), (.slice A0_1 l0_1.length c0_1)] 33 (0, 0))) ∧ Aside0 (Below w.heap.size w w'))
           case atStart => exact ⟨(x10_1), (0), (by first | rfl | (simp; done) | (simp [*]; done)), H', ⟨Nat.le_refl _⟩, ⟨by (try simp only [hl10_1]); (with_reducible repeat (first | apply rA | apply rN | apply rD)); exact HO_8.out⟩, ⟨by (try simp only [hl10_1]); (with_reducible repeat (first | apply rA | apply rN | apply rD)); exact HO_10.out⟩, ⟨by (try simp only [hl10_1]); (with_reducible repeat (first | apply rA | apply rN | apply rD)); exact HO_39.out⟩, ⟨by (try simp only [hl10_1]); (with_reducible repeat (first | apply rA | apply rN | apply rD)); exact HO384.out⟩, ⟨by (try simp only [hl10_1]); (with_reducible repeat (first | refine kN ?_ _ | refine kD ?_ | refine kA ?_ _)); exact BK365.out⟩, ⟨by repeat (first | (with_reducible first | exact HB.out | apply bA | apply bN | apply bD | refine bS ?_ GE365.out) | exact HB.out)⟩⟩
           case round =>
            clear H'
            try clear c1
            try clear p1
            try clear q1
            try clear hx1
            try clear c2
            try clear p2
            try clear c3
            try clear p3
            try clear q3
            try clear hx3
            try clear c5
            try clear c7
            try clear c7b0
            try clear c7b1
            try clear c8
            try clear c8b0
            try clear c8b1
            try clear c10
            try clear c10b0
            try clear c11
            try clear c11b0
            try clear p12
            try clear q12
            try clear hx12
            try clear hf12
            try clear c26
            try clear c26b0
            try clear c27
            try clear c27b0
            try clear c28
            try clear c28b0
            try clear c31
            try clear hcz14_0
            try clear hcz14_1
            try clear hcz16_0
            try clear hcz16_1
            try clear hcz21_0
            try clear hcz21_1
            try clear hcz31_0
            try clear hcz31_1
            try clear hcz33_0
            try clear hcz33_1
            try clear hfz14_0
            try clear hfz14_1
            try clear hfz16_0
            try clear hfz16_1
            try clear hfz21_0
            try clear hfz21_1
            try clear hfz31_0
            try clear hfz31_1
            try clear hfz33_0
            try clear hfz33_1
            try clear hx12_0
            try clear hx380_0
            try clear p1
            try clear p12
            try clear p2
            try clear p380
            try clear q1
            try clear q12
            try clear q380
            obtain ⟨x10_2, x52_2, rfl, HA, HK2, HO_8, HO_10, HO_39, HO_50, BK365, HB⟩ := hrel
            have hl10_2 := (Kd.R_reads' HO_10.out).1
            rw [hl10_2] at HO_10
            (try simp only [hl10_2])
            (try simp only [hl10_2] at BK365)
            (try simp only [hl10_2] at HO_8)
            (try simp only [hl10_2] at HO_39)
            (try simp only [hl10_2] at HO_50)
            cases gk with
            | zero => exact absurd HA.out (by simp [spec_CountSlideWays.l1])
            | succ k2 =>
             have H := HA.out
             clear HA
             simp only [spec_CountSlideWays.l1] at H
             by_cases c36 : x52_2 < (t382.length : Int)
             ·rw [if_pos c36] at H
              have c36b0 : decide (x52_2 < (t382.length : Int)) = true := decide_eq_true c36
              (try (have c36m0 := c36b0; simp only [hl10_1] at c36m0)); (try (have c36m1 := c36b0; simp only [hl10_2] at c36m1))
              clear c36
              by_cases c37 : 0 ≤ x52_2
              ·rw [if_pos c37] at H
               have c37b0 : decide (0 ≤ x52_2) = true := decide_eq_true c37
               clear c37
               by_cases c38 : x52_2 < (t382.length : Int)
               ·rw [if_pos c38] at H
                have c38b0 : decide (x52_2 < (t382.length : Int)) = true := decide_eq_true c38
                (try (have c38m0 := c38b0; simp only [hl10_1] at c38m0)); (try (have c38m1 := c38b0; simp only [hl10_2] at c38m1))
                clear c38
                replace H := Option.bind_eq_some_iff.mp H
                obtain ⟨⟨t387, t388⟩, A390, H⟩ := H
                replace H : ((spec_boNumber.f k2 l0_0 l0_1 t387).bind fun t389 => (if 0 ≤ t389 then (if t389 < (t367.length : Int) then (if 0 ≤ t381 then (if t381 < (t367.length : Int) then (if (rd t367 t389) = (wrap64 ((rd t367 t381) + 1)) then (if t389 < (x10_2.length : Int) then (if t381 < (x10_2.length : Int) then ((spec_l1Least.f 1000000000000001 (wrap64 ((rd x10_2 t389) + (rd x10_2 t381)))).bind fun t394 => (spec_CountSlideWays.l1 k2 a2 t367 (x10_2.set (t389 : Int).toNat t394) (rdOf ByteArray.empty t370 x41_1) t381 t370 (t370.length : Int) x41_1 t382 (t382.length : Int) (wrap64 (x52_2 + 1)) l0_0 l0_1)) else (none)) else (none)) else (spec_CountSlideWays.l1 k2 a2 t367 x10_2 (rdOf ByteArray.empty t370 x41_1) t381 t370 (t370.length : Int) x41_1 t382 (t382.length : Int) (wrap64 (x52_2 + 1)) l0_0 l0_1)) else (none)) else (none)) else (none)) else (none))) = some (r1, r2) := H
                have A39 := aM A390
                clear A390
                replace H := Option.bind_eq_some_iff.mp H
                obtain ⟨t389, A400, H⟩ := H
                replace H : (if 0 ≤ t389 then (if t389 < (t367.length : Int) then (if 0 ≤ t381 then (if t381 < (t367.length : Int) then (if (rd t367 t389) = (wrap64 ((rd t367 t381) + 1)) then (if t389 < (x10_2.length : Int) then (if t381 < (x10_2.length : Int) then ((spec_l1Least.f 1000000000000001 (wrap64 ((rd x10_2 t389) + (rd x10_2 t381)))).bind fun t394 => (spec_CountSlideWays.l1 k2 a2 t367 (x10_2.set (t389 : Int).toNat t394) (rdOf ByteArray.empty t370 x41_1) t381 t370 (t370.length : Int) x41_1 t382 (t382.length : Int) (wrap64 (x52_2 + 1)) l0_0 l0_1)) else (none)) else (none)) else (spec_CountSlideWays.l1 k2 a2 t367 x10_2 (rdOf ByteArray.empty t370 x41_1) t381 t370 (t370.length : Int) x41_1 t382 (t382.length : Int) (wrap64 (x52_2 + 1)) l0_0 l0_1)) else (none)) else (none)) else (none)) else (none)) = some (r1, r2) := H
                have A40 := aM A400
                clear A400
                by_cases c41 : 0 ≤ t389
                ·rw [if_pos c41] at H
                 have c41b0 : decide (0 ≤ t389) = true := decide_eq_true c41
                 clear c41
                 by_cases c42 : t389 < (t367.length : Int)
                 ·rw [if_pos c42] at H
                  have c42b0 : decide (t389 < (t367.length : Int)) = true := decide_eq_true c42
                  (try (have c42m0 := c42b0; simp only [hl10_1] at c42m0)); (try (have c42m1 := c42b0; simp only [hl10_2] at c42m1))
                  clear c42
                  by_cases c43 : 0 ≤ t381
                  ·rw [if_pos c43] at H
                   have c43b0 : decide (0 ≤ t381) = true := decide_eq_true c43
                   clear c43
                   by_cases c44 : t381 < (t367.length : Int)
                   ·rw [if_pos c44] at H
                    have c44b0 : decide (t381 < (t367.length : Int)) = true := decide_eq_true c44
                    (try (have c44m0 := c44b0; simp only [hl10_1] at c44m0)); (try (have c44m1 := c44b0; simp only [hl10_2] at c44m1))
                    clear c44
                    by_cases c45 : (rd t367 t389) = (wrap64 ((rd t367 t381) + 1))
                    ·rw [if_pos c45] at H
                     have c45b0 : ((rd t367 t389) == (wrap64 ((rd t367 t381) + 1))) = true := beq_iff_eq.mpr c45
                     have c45b1 : ((rd t367 t389) != (wrap64 ((rd t367 t381) + 1))) = false := bne_eq_false_iff_eq.mpr c45
                     clear c45
                     by_cases c46 : t389 < (x10_2.length : Int)
                     ·rw [if_pos c46] at H
                      have c46b0 : decide (t389 < (x10_2.length : Int)) = true := decide_eq_true c46
                      (try (have c46m0 := c46b0; simp only [hl10_1] at c46m0)); (try (have c46m1 := c46b0; simp only [hl10_2] at c46m1))
                      clear c46
                      by_cases c47 : t381 < (x10_2.length : Int)
                      ·rw [if_pos c47] at H
                       have c47b0 : decide (t381 < (x10_2.length : Int)) = true := decide_eq_true c47
                       (try (have c47m0 := c47b0; simp only [hl10_1] at c47m0)); (try (have c47m1 := c47b0; simp only [hl10_2] at c47m1))
                       clear c47
                       replace H := Option.bind_eq_some_iff.mp H
                       obtain ⟨t394, A480, H⟩ := H
                       replace H : (spec_CountSlideWays.l1 k2 a2 t367 (x10_2.set (t389 : Int).toNat t394) (rdOf ByteArray.empty t370 x41_1) t381 t370 (t370.length : Int) x41_1 t382 (t382.length : Int) (wrap64 (x52_2 + 1)) l0_0 l0_1) = some (r1, r2) := H
                       have A48 := aM A480
                       clear A480
                       obtain ⟨y395, hy395⟩ : ∃ y_ : List Int, y_ = (x10_2.set (t389 : Int).toNat t394) := ⟨_, rfl⟩
                       replace H : (spec_CountSlideWays.l1 k2 a2 t367 y395 (rdOf ByteArray.empty t370 x41_1) t381 t370 (t370.length : Int) x41_1 t382 (t382.length : Int) (wrap64 (x52_2 + 1)) l0_0 l0_1) = some (r1, r2) := by first | (rw [hy395]; with_reducible exact H) | (have H2_ := (Option.bind_some _ _).symm.trans H; rw [hy395]; with_reducible exact H2_) | (have H2_ := (Option.bind_some _ _).symm.trans H; with_reducible exact H2_) | with_reducible exact H | (rw [hy395]; exact H) | exact H
                       have Ny395 := aM hy395
                       clear hy395
                       have H' := aM H
                       clear H
                       have p385 : 0 ≤ (x52_2 : Int) := of_decide_eq_true (by first | (with_reducible assumption) | assumption)
                       have q385 : x52_2 < (t382.length : Int) := of_decide_eq_true (by first | (with_reducible assumption) | assumption)
                       obtain ⟨ad385, e385, hx385_0, hx385_1⟩ := at_T35 (Kd.R_reads' HO_50.out).2.2 x52_2 p385 q385
                       cases e385
                       replace p385 := eq_true p385
                       replace q385 := eq_true q385
                       try go_wp2_with (first | ((with_reducible refine gate_dst (N := 15) rfl ?_); refine box_event ?hg (N := 15) ?hd (cs := #[.int .i64 0, .int .i64 0]) (t := 35) ?hr ?_; (case hd => rfl); (case hg => rfl); (case hr => first | (go_simp; done) | (go_simp; rfl)); intro gb386 hg w50 hbox hb; have n0_ := aM (Kd.R_below (by (with_reducible repeat (first | apply rA | apply rN | apply rD)); exact HO_8.out) hb); have n1_ := aM (Kd.R_below (by (with_reducible repeat (first | apply rA | apply rN | apply rD)); exact HO_10.out) hb); have n2_ := aM (Kd.R_below (by (with_reducible repeat (first | apply rA | apply rN | apply rD)); exact HO_39.out) hb); have n3_ := aM (Kd.R_below (Kd.R_elderB (by (with_reducible repeat (first | apply rA | apply rN | apply rD)); exact HO_50.out) gb386 (Nat.le_of_eq hg.symm)) hb); have n4_ := aM (blk_below (g := gb365) (o := .cells #[.slice A0_0 l0_0.length c0_0, .slice A0_1 l0_1.length c0_1] 33 (0, 0)) (by (with_reducible repeat (first | refine kN ?_ _ | refine kD ?_ | refine kA ?_ _)); exact BK365.out) hb); have n5_ := aM (below_step (by repeat (first | (with_reducible first | exact HB.out | apply bA | apply bN | apply bD | refine bS ?_ GE365.out) | exact HB.out)) hb); have n6_ := aM (hbox); have n7_ := aM ((by rw [hg]; exact (below_size (by repeat (first | (with_reducible first | exact HB.out | apply bA | apply bN | apply bD | refine bS ?_ GE365.out) | exact HB.out))) : w.heap.size ≤ gb386)); have n8_ := aM ((by rw [hg]; exact (below_size (by repeat (first | (with_reducible first | exact HB.out | apply bA | apply bN | apply bD | refine bS ?_ GE365.out) | exact HB.out))) : w.heap.size ≤ gb386)); have n9_ := aM ((by rw [hg]; exact Nat.ne_of_lt (blk_lt (g := gb365) (o := .cells #[.slice A0_0 l0_0.length c0_0, .slice A0_1 l0_1.length c0_1] 33 (0, 0)) (by (with_reducible repeat (first | refine kN ?_ _ | refine kD ?_ | refine kA ?_ _)); exact BK365.out)) : gb365 ≠ gb386)); have n10_ := aM ((by rw [hg]; exact Nat.ne_of_gt (blk_lt (g := gb365) (o := .cells #[.slice A0_0 l0_0.length c0_0, .slice A0_1 l0_1.length c0_1] 33 (0, 0)) (by (with_reducible repeat (first | refine kN ?_ _ | refine kD ?_ | refine kA ?_ _)); exact BK365.out)) : gb386 ≠ gb365)); clear HO_8; clear HO_10; clear HO_39; clear HO_50; clear BK365; clear HB; have HO_8 := n0_; have HO_10 := n1_; have HO_39 := n2_; have HO_50 := n3_; have BK365 := n4_; have HB := n5_; have BK386 := n6_; have GW386 := n7_; have GE386 := n8_; have NB365_386 := n9_; have NB386_365 := n10_; clear n0_ n1_ n2_ n3_ n4_ n5_ n6_ n7_ n8_ n9_ n10_; clear hb hbox hg; have hnb51 := NB386_365.out; have hnc51 := NB365_386.out; have hcz52_0 : w50.cell? ⟨gb386, 0, none⟩ = some (.int .i64 0) := (blk_cell BK386.out 0).trans rfl; have hcz52_1 : w50.cell? ⟨gb386, 1, none⟩ = some (.int .i64 0) := (blk_cell BK386.out 1).trans rfl; have hfz52_0 := blk_frozen BK386.out 0; have hfz52_1 := blk_frozen BK386.out 1; have hcz53_0 : w50.cell? ⟨gb365, 0, none⟩ = some (.slice A0_0 l0_0.length c0_0) := (blk_cell BK365.out 0).trans rfl; have hcz53_1 : w50.cell? ⟨gb365, 1, none⟩ = some (.slice A0_1 l0_1.length c0_1) := (blk_cell BK365.out 1).trans rfl; have hfz53_0 := blk_frozen BK365.out 0; have hfz53_1 := blk_frozen BK365.out 1) | ((with_reducible refine gate_callee (f := 47) rfl ?_); refine goesL_ (some 60) rfl rfl Try.func47 (by kernel_rfl) rfl #[.agg #[.slice A0_0 l0_0.length c0_0, .slice A0_1 l0_1.length c0_1], .string (rdOf ByteArray.empty t370 x41_1), .agg #[.int .i64 ((rd_T35 t382 x52_2).f0), .int .i64 ((rd_T35 t382 x52_2).f1)]] rfl (by (try simp only [List.map_toArray, List.map_cons, List.map_nil]); first | done | rfl | (simp only [List.length_drop, List.length_take]; rfl)) ?_; (with_reducible refine (spec_boPut.calls k2 _ _ l0_0 _ _ l0_1 (rdOf ByteArray.empty t370 x41_1) ((rd_T35 t382 x52_2).f0) ((rd_T35 t382 x52_2).f1) t387 t388 _ ?side1 ?side2 ?side3 ?side4 A39.out).mono ?_); (case side1 => exact Kd.C_below HR0_0.out (by repeat (first | (with_reducible first | exact HB.out | apply bA | apply bN | apply bD | refine bS ?_ GE365.out | refine bS ?_ GE386.out) | exact HB.out))); (case side2 => exact HC0_0.out); (case side3 => exact Kd.C_below HR0_1.out (by repeat (first | (with_reducible first | exact HB.out | apply bA | apply bN | apply bD | refine bS ?_ GE365.out | refine bS ?_ GE386.out) | exact HB.out))); (case side4 => exact HC0_1.out); rintro e w54 ⟨rfl, hb⟩; refine ⟨_, rfl, ?_⟩; have n0_ := aM (Kd.R_below (by (with_reducible repeat (first | apply rA | apply rN | apply rD)); exact (Kd.R_mono (Kd.R_far (p := ⟨gb386, 1, none⟩) (Kd.R_far (p := ⟨gb386, 0, none⟩) (Kd.R_types HO_8.out BK386.out (by decide)) (fun _ hk => hk.2) (.int .i64 ((rd_T35 t382 x52_2).f0))) (fun _ hk => hk.2) (.int .i64 ((rd_T35 t382 x52_2).f1))) (fun _ h_ => h_.1))) hb); have n1_ := aM (Kd.R_below (by (with_reducible repeat (first | apply rA | apply rN | apply rD)); exact (Kd.R_mono (Kd.R_far (p := ⟨gb386, 1, none⟩) (Kd.R_far (p := ⟨gb386, 0, none⟩) (Kd.R_types HO_10.out BK386.out (by decide)) (fun _ hk => hk.2) (.int .i64 ((rd_T35 t382 x52_2).f0))) (fun _ hk => hk.2) (.int .i64 ((rd_T35 t382 x52_2).f1))) (fun _ h_ => h_.1))) hb); have n2_ := aM (Kd.R_below (by (with_reducible repeat (first | apply rA | apply rN | apply rD)); exact (Kd.R_mono (Kd.R_far (p := ⟨gb386, 1, none⟩) (Kd.R_far (p := ⟨gb386, 0, none⟩) (Kd.R_types HO_39.out BK386.out (by decide)) (fun _ hk => hk.2) (.int .i64 ((rd_T35 t382 x52_2).f0))) (fun _ hk => hk.2) (.int .i64 ((rd_T35 t382 x52_2).f1))) (fun _ h_ => h_.1))) hb); have n3_ := aM (Kd.R_below (by (with_reducible repeat (first | apply rA | apply rN | apply rD)); exact (Kd.R_mono (Kd.R_far (p := ⟨gb386, 1, none⟩) (Kd.R_far (p := ⟨gb386, 0, none⟩) (Kd.R_mono HO_50.out (fun k_ hk => (⟨hk, hk.2⟩ : _ ∧ k_ ≠ gb386))) (fun _ hk => hk.2) (.int .i64 ((rd_T35 t382 x52_2).f0))) (fun _ hk => hk.2) (.int .i64 ((rd_T35 t382 x52_2).f1))) (fun _ h_ => h_.1))) hb); have n4_ := aM (blk_below (g := gb365) (o := .cells #[.slice A0_0 l0_0.length c0_0, .slice A0_1 l0_1.length c0_1] 33 (0, 0)) (by (with_reducible repeat (first | refine kN ?_ _ | refine kD ?_ | refine kA ?_ _)); refine blk_far ?_ NB365_386.out _; (with_reducible repeat (first | refine kN ?_ _ | refine kD ?_ | refine kA ?_ _)); refine blk_far ?_ NB365_386.out _; (with_reducible repeat (first | refine kN ?_ _ | refine kD ?_ | refine kA ?_ _)); exact BK365.out) hb); have n5_ := aM (blk_below (g := gb386) (o := .cells #[.int .i64 ((rd_T35 t382 x52_2).f0), .int .i64 ((rd_T35 t382 x52_2).f1)] 35 (0, 0)) (by (with_reducible repeat (first | refine kN ?_ _ | refine kD ?_ | refine kA ?_ _)); refine blk_put (cs := #[.int .i64 ((rd_T35 t382 x52_2).f0), .int .i64 0]) ?_ 1 _ rfl; (with_reducible repeat (first | refine kN ?_ _ | refine kD ?_ | refine kA ?_ _)); refine blk_put (cs := #[.int .i64 0, .int .i64 0]) ?_ 0 _ rfl; (with_reducible repeat (first | refine kN ?_ _ | refine kD ?_ | refine kA ?_ _)); exact BK386.out) hb); have n6_ := aM (below_step (by repeat (first | (with_reducible first | exact HB.out | apply bA | apply bN | apply bD | refine bS ?_ GE365.out | refine bS ?_ GE386.out) | exact HB.out)) hb); clear HO_8; clear HO_10; clear HO_39; clear HO_50; clear BK365; clear BK386; clear HB; have HO_8 := n0_; have HO_10 := n1_; have HO_39 := n2_; have HO_50 := n3_; have BK365 := n4_; have BK386 := n5_; have HB := n6_; clear n0_ n1_ n2_ n3_ n4_ n5_ n6_; (try clear hb); (try clear hb2); (try clear hk); (try clear hi); have hcz55_0 : w54.cell? ⟨gb365, 0, none⟩ = some (.slice A0_0 l0_0.length c0_0) := (blk_cell BK365.out 0).trans rfl; have hcz55_1 : w54.cell? ⟨gb365, 1, none⟩ = some (.slice A0_1 l0_1.length c0_1) := (blk_cell BK365.out 1).trans rfl; have hfz55_0 := blk_frozen BK365.out 0; have hfz55_1 := blk_frozen BK365.out 1) | ((with_reducible refine gate_callee (f := 57) rfl ?_); refine goesL_ (some 65) rfl rfl Try.func57 (by kernel_rfl) rfl #[.agg #[.slice A0_0 l0_0.length c0_0, .slice A0_1 l0_1.length c0_1], .string t387] rfl (by (try simp only [List.map_toArray, List.map_cons, List.map_nil]); first | done | rfl | (simp only [List.length_drop, List.length_take]; rfl)) ?_; (with_reducible refine (spec_boNumber.calls k2 _ _ l0_0 _ _ l0_1 t387 t389 _ ?side1 ?side2 ?side3 ?side4 A40.out).mono ?_); (case side1 => repeat (first | exact (Kd.C_below HR0_0.out HB.out) | (with_reducible refine cA ?_ _) | (with_reducible refine cN ?_ _) | (with_reducible refine cD ?_))); (case side2 => exact HC0_0.out); (case side3 => repeat (first | exact (Kd.C_below HR0_1.out HB.out) | (with_reducible refine cA ?_ _) | (with_reducible refine cN ?_ _) | (with_reducible refine cD ?_))); (case side4 => exact HC0_1.out); rintro e w56 ⟨rfl, hb⟩; refine ⟨_, rfl, ?_⟩; have n0_ := aM (Kd.R_below (by (with_reducible repeat (first | apply rA | apply rN | apply rD)); exact HO_8.out) hb); have n1_ := aM (Kd.R_below (by (with_reducible repeat (first | apply rA | apply rN | apply rD)); exact HO_10.out) hb); have n2_ := aM (Kd.R_below (by (with_reducible repeat (first | apply rA | apply rN | apply rD)); exact HO_39.out) hb); have n3_ := aM (Kd.R_below (by (with_reducible repeat (first | apply rA | apply rN | apply rD)); exact HO_50.out) hb); have n4_ := aM (blk_below (g := gb365) (o := .cells #[.slice A0_0 l0_0.length c0_0, .slice A0_1 l0_1.length c0_1] 33 (0, 0)) (by (with_reducible repeat (first | refine kN ?_ _ | refine kD ?_ | refine kA ?_ _)); exact BK365.out) hb); have n5_ := aM (blk_below (g := gb386) (o := .cells #[.int .i64 ((rd_T35 t382 x52_2).f0), .int .i64 ((rd_T35 t382 x52_2).f1)] 35 (0, 0)) (by (with_reducible repeat (first | refine kN ?_ _ | refine kD ?_ | refine kA ?_ _)); exact BK386.out) hb); have n6_ := aM (below_step (by repeat (first | (with_reducible first | exact HB.out | apply bA | apply bN | apply bD | refine bS ?_ GE365.out | refine bS ?_ GE386.out) | exact HB.out)) hb); clear HO_8; clear HO_10; clear HO_39; clear HO_50; clear BK365; clear BK386; clear HB; have HO_8 := n0_; have HO_10 := n1_; have HO_39 := n2_; have HO_50 := n3_; have BK365 := n4_; have BK386 := n5_; have HB := n6_; clear n0_ n1_ n2_ n3_ n4_ n5_ n6_; (try clear hb); (try clear hb2); (try clear hk); (try clear hi)))
                       have n0_ := aM (Kd.R_drew HO_8.out)
                       have n1_ := aM (Kd.R_drew HO_10.out)
                       have n2_ := aM (Kd.R_drew HO_39.out)
                       have n3_ := aM (Kd.R_drew HO_50.out)
                       have n4_ := aM (blk_drew BK365.out)
                       have n5_ := aM (blk_drew BK386.out)
                       have n6_ := aM (below_drew1 HB.out)
                       clear HO_8 HO_10 HO_39 HO_50 BK365 BK386 HB
                       have HO_8 := n0_
                       have HO_10 := n1_
                       have HO_39 := n2_
                       have HO_50 := n3_
                       have BK365 := n4_
                       have BK386 := n5_
                       have HB := n6_
                       clear n0_ n1_ n2_ n3_ n4_ n5_ n6_
                       have p390 : 0 ≤ (t389 : Int) := of_decide_eq_true (by first | (with_reducible assumption) | assumption)
                       have q390 : t389 < (t367.length : Int) := of_decide_eq_true (by first | (with_reducible assumption) | assumption)
                       obtain ⟨ad390, e390, hx390_0⟩ := Kd.at_int (Kd.R_reads' HO_8.out).2.2 t389 p390 q390
                       cases e390
                       replace p390 := eq_true p390
                       replace q390 := eq_true q390
                       have p391 : 0 ≤ (t381 : Int) := of_decide_eq_true (by first | (with_reducible assumption) | assumption)
                       have q391 : t381 < (t367.length : Int) := of_decide_eq_true (by first | (with_reducible assumption) | assumption)
                       obtain ⟨ad391, e391, hx391_0⟩ := Kd.at_int (Kd.R_reads' HO_8.out).2.2 t381 p391 q391
                       obtain rfl : ad390 = ad391 := (by injection e391)
                       replace p391 := eq_true p391
                       replace q391 := eq_true q391
                       refine start_ (n := 10) (S := fun w' => w'.cell? (ad390.add (t389).toNat) = some (.int .i64 (rd t367 t389)) ∧ w'.cell? (ad390.add (t381).toNat) = some (.int .i64 (rd t367 t381))) (ds := []) #[F,F,F,F,F,F,F,F,F,F] (by kernel_rfl) rfl rfl ⟨hx390_0, hx391_0⟩ (fun hHeld => ?_); refine with_tabW spec_CountSlideWays.tab15 spec_CountSlideWays.bits15 (fun HT_ HW_ => ?_)
                       generalize w56.drew = w57 at HO_8 HO_10 HO_39 HO_50 BK365 BK386 HB hx390_0 hx391_0 hHeld ⊢
                       refine pure_ (i := 0) (N := some 66) (v := ?_) (a' := ?_) #[T,F,F,F,F,F,F,F,F,F] rfl rfl (any_of HT_.out (by kernel_rfl)) (fun _ _ _ h => h) (Or.inl ⟨by rfl, ?_⟩) ?_ ?_; rotate_left; (next => intro w'; go_simp; with_reducible rfl); rotate_left; next => simp only [Act.put, sA, sB, sC, i64_w, i32_w]; rfl
                       refine pure_ (i := 1) (N := some 67) (v := ?_) (a' := ?_) #[T,T,F,F,F,F,F,F,F,F] rfl rfl (any_of HT_.out (by kernel_rfl)) (fun _ _ _ h => h) (Or.inl ⟨by rfl, ?_⟩) ?_ ?_; rotate_left; (next => intro w'; go_simp; with_reducible rfl); rotate_left; next => simp only [Act.put, sA, sB, sC, i64_w, i32_w]; rfl
                       refine pure_ (i := 2) (N := some 68) (v := ?_) (a' := ?_) #[T,T,T,F,F,F,F,F,F,F] rfl rfl (any_of HT_.out (by kernel_rfl)) (fun _ _ _ h => h) (Or.inl ⟨by rfl, ?_⟩) ?_ ?_; rotate_left; (next => intro w'; go_simp; with_reducible rfl); rotate_left; next => simp only [Act.put, sA, sB, sC, i64_w, i32_w]; rfl
                       refine pure_ (i := 4) (N := some 70) (v := ?_) (a' := ?_) #[T,T,T,F,T,F,F,F,F,F] rfl rfl (any_of HT_.out (by kernel_rfl)) (fun _ _ _ h => h) (Or.inl ⟨by rfl, ?_⟩) ?_ ?_; rotate_left; (next => intro w'; go_simp; with_reducible rfl); rotate_left; next => simp only [Act.put, sA, sB, sC, i64_w, i32_w]; rfl
                       refine pure_ (i := 5) (N := some 71) (v := ?_) (a' := ?_) #[T,T,T,F,T,T,F,F,F,F] rfl rfl (any_of HT_.out (by kernel_rfl)) (fun _ _ _ h => h) (Or.inl ⟨by rfl, ?_⟩) ?_ ?_; rotate_left; (next => intro w'; go_simp; with_reducible rfl); rotate_left; next => simp only [Act.put, sA, sB, sC, i64_w, i32_w]; rfl
                       refine pure_ (i := 6) (N := some 72) (v := ?_) (a' := ?_) #[T,T,T,F,T,T,T,F,F,F] rfl rfl (any_of HT_.out (by kernel_rfl)) (fun _ _ _ h => h) (Or.inl ⟨by rfl, ?_⟩) ?_ ?_; rotate_left; (next => intro w'; go_simp; with_reducible rfl); rotate_left; next => simp only [Act.put, sA, sB, sC, i64_w, i32_w]; rfl
                       refine take_ (i := 3) (N := some 69) (v := ?_) (a' := ?_) #[T,T,T,T,T,T,T,F,F,F] rfl rfl (take_ofW HT_.out HW_.out (by kernel_rfl)) (fun _ _ _ h => h) (Or.inl ⟨by rfl, ?_⟩) hHeld ?_ ?_
                       rotate_left
                       ·rintro w' ⟨s0, s1⟩
                        go_simp
                        with_reducible rfl
                       rotate_left
                       ·simp only [Act.put, sA, sB, sC, i64_w, i32_w]
                        rfl
                       refine take_ (i := 7) (N := some 73) (v := ?_) (a' := ?_) #[T,T,T,T,T,T,T,T,F,F] rfl rfl (take_ofW HT_.out HW_.out (by kernel_rfl)) (fun _ _ _ h => h) (Or.inl ⟨by rfl, ?_⟩) hHeld ?_ ?_
                       rotate_left
                       ·rintro w' ⟨s0, s1⟩
                        go_simp
                        with_reducible rfl
                       rotate_left
                       ·simp only [Act.put, sA, sB, sC, i64_w, i32_w]
                        rfl
                       refine pure_ (i := 8) (N := some 74) (v := ?_) (a' := ?_) #[T,T,T,T,T,T,T,T,T,F] rfl rfl (any_of HT_.out (by kernel_rfl)) (fun _ _ _ h => h) (Or.inl ⟨by rfl, ?_⟩) ?_ ?_; rotate_left; (next => intro w'; go_simp; with_reducible rfl); rotate_left; next => simp only [Act.put, sA, sB, sC, i64_w, i32_w]; rfl
                       refine pure_ (i := 9) (N := some 75) (v := ?_) (a' := ?_) #[T,T,T,T,T,T,T,T,T,T] rfl rfl (any_of HT_.out (by kernel_rfl)) (fun _ _ _ h => h) (Or.inl ⟨by rfl, ?_⟩) ?_ ?_; rotate_left; (next => intro w'; go_simp; with_reducible rfl); rotate_left; next => simp only [Act.put, sA, sB, sC, i64_w, i32_w]; rfl
                       refine done_ (done_of HT_.out (by kernel_rfl)) ?_
                       try go_wp2
                       have n0_ := aM (Kd.R_drew HO_8.out)
                       have n1_ := aM (Kd.R_drew HO_10.out)
                       have n2_ := aM (Kd.R_drew HO_39.out)
                       have n3_ := aM (Kd.R_drew HO_50.out)
                       have n4_ := aM (blk_drew BK365.out)
                       have n5_ := aM (blk_drew BK386.out)
                       have n6_ := aM (below_drew1 HB.out)
                       clear HO_8 HO_10 HO_39 HO_50 BK365 BK386 HB
                       have HO_8 := n0_
                       have HO_10 := n1_
                       have HO_39 := n2_
                       have HO_50 := n3_
                       have BK365 := n4_
                       have BK386 := n5_
                       have HB := n6_
                       clear n0_ n1_ n2_ n3_ n4_ n5_ n6_
                       have p392 : 0 ≤ (t389 : Int) := of_decide_eq_true (by first | (with_reducible assumption) | assumption)
                       have q392 : t389 < (x10_2.length : Int) := of_decide_eq_true (by first | (with_reducible assumption) | assumption)
                       obtain ⟨ad392, e392, hx392_0⟩ := Kd.at_int (Kd.R_reads' HO_10.out).2.2 t389 p392 q392
                       obtain rfl : (⟨go12, 0, none⟩ : Addr) = ad392 := (by injection e392)
                       (first | simp only [add_plain] at hx392_0 | simp only [add_at] at hx392_0 | simp only [Addr.add, Nat.zero_add] at hx392_0 | skip)
                       replace p392 := eq_true p392
                       replace q392 := eq_true q392
                       have p393 : 0 ≤ (t381 : Int) := of_decide_eq_true (by first | (with_reducible assumption) | assumption)
                       have q393 : t381 < (x10_2.length : Int) := of_decide_eq_true (by first | (with_reducible assumption) | assumption)
                       obtain ⟨ad393, e393, hx393_0⟩ := Kd.at_int (Kd.R_reads' HO_10.out).2.2 t381 p393 q393
                       obtain rfl : (⟨go12, 0, none⟩ : Addr) = ad393 := (by injection e393)
                       (first | simp only [add_plain] at hx393_0 | simp only [add_at] at hx393_0 | simp only [Addr.add, Nat.zero_add] at hx393_0 | skip)
                       replace p393 := eq_true p393
                       replace q393 := eq_true q393
                       refine start_ (n := 14) (S := fun w' => w'.cell? ⟨go12, (t389).toNat, none⟩ = some (.int .i64 (rd x10_2 t389)) ∧ w'.cell? ⟨go12, (t381).toNat, none⟩ = some (.int .i64 (rd x10_2 t381))) (ds := [13]) #[F,F,F,F,F,F,F,F,F,F,F,F,F,F] (by kernel_rfl) rfl rfl ⟨hx392_0, hx393_0⟩ (fun hHeld => ?_); refine with_tabW spec_CountSlideWays.tab16 spec_CountSlideWays.bits16 (fun HT_ HW_ => ?_)
                       generalize w57.drew = w58 at HO_8 HO_10 HO_39 HO_50 BK365 BK386 HB hx392_0 hx393_0 hHeld ⊢
                       refine pure_ (i := 0) (N := some 76) (v := ?_) (a' := ?_) #[T,F,F,F,F,F,F,F,F,F,F,F,F,F] rfl rfl (any_of HT_.out (by kernel_rfl)) (fun _ _ _ h => h) (Or.inl ⟨by rfl, ?_⟩) ?_ ?_; rotate_left; (next => intro w'; go_simp; with_reducible rfl); rotate_left; next => simp only [Act.put, sA, sB, sC, i64_w, i32_w]; rfl
                       refine pure_ (i := 1) (N := some 77) (v := ?_) (a' := ?_) #[T,T,F,F,F,F,F,F,F,F,F,F,F,F] rfl rfl (any_of HT_.out (by kernel_rfl)) (fun _ _ _ h => h) (Or.inl ⟨by rfl, ?_⟩) ?_ ?_; rotate_left; (next => intro w'; go_simp; with_reducible rfl); rotate_left; next => simp only [Act.put, sA, sB, sC, i64_w, i32_w]; rfl
                       refine pure_ (i := 2) (N := some 78) (v := ?_) (a' := ?_) #[T,T,T,F,F,F,F,F,F,F,F,F,F,F] rfl rfl (any_of HT_.out (by kernel_rfl)) (fun _ _ _ h => h) (Or.inl ⟨by rfl, ?_⟩) ?_ ?_; rotate_left; (next => intro w'; go_simp; with_reducible rfl); rotate_left; next => simp only [Act.put, sA, sB, sC, i64_w, i32_w]; rfl
                       refine pure_ (i := 3) (N := some 79) (v := ?_) (a' := ?_) #[T,T,T,T,F,F,F,F,F,F,F,F,F,F] rfl rfl (any_of HT_.out (by kernel_rfl)) (fun _ _ _ h => h) (Or.inl ⟨by rfl, ?_⟩) ?_ ?_; rotate_left; (next => intro w'; go_simp; with_reducible rfl); rotate_left; next => simp only [Act.put, sA, sB, sC, i64_w, i32_w]; rfl
                       refine pure_ (i := 4) (N := some 80) (v := ?_) (a' := ?_) #[T,T,T,T,T,F,F,F,F,F,F,F,F,F] rfl rfl (any_of HT_.out (by kernel_rfl)) (fun _ _ _ h => h) (Or.inl ⟨by rfl, ?_⟩) ?_ ?_; rotate_left; (next => intro w'; go_simp; with_reducible rfl); rotate_left; next => simp only [Act.put, sA, sB, sC, i64_w, i32_w]; rfl
                       refine pure_ (i := 6) (N := some 82) (v := ?_) (a' := ?_) #[T,T,T,T,T,F,T,F,F,F,F,F,F,F] rfl rfl (any_of HT_.out (by kernel_rfl)) (fun _ _ _ h => h) (Or.inl ⟨by rfl, ?_⟩) ?_ ?_; rotate_left; (next => intro w'; go_simp; with_reducible rfl); rotate_left; next => simp only [Act.put, sA, sB, sC, i64_w, i32_w]; rfl
                       refine pure_ (i := 7) (N := some 83) (v := ?_) (a' := ?_) #[T,T,T,T,T,F,T,T,F,F,F,F,F,F] rfl rfl (any_of HT_.out (by kernel_rfl)) (fun _ _ _ h => h) (Or.inl ⟨by rfl, ?_⟩) ?_ ?_; rotate_left; (next => intro w'; go_simp; with_reducible rfl); rotate_left; next => simp only [Act.put, sA, sB, sC, i64_w, i32_w]; rfl
                       refine pure_ (i := 8) (N := some 84) (v := ?_) (a' := ?_) #[T,T,T,T,T,F,T,T,T,F,F,F,F,F] rfl rfl (any_of HT_.out (by kernel_rfl)) (fun _ _ _ h => h) (Or.inl ⟨by rfl, ?_⟩) ?_ ?_; rotate_left; (next => intro w'; go_simp; with_reducible rfl); rotate_left; next => simp only [Act.put, sA, sB, sC, i64_w, i32_w]; rfl
                       refine take_ (i := 5) (N := some 81) (v := ?_) (a' := ?_) #[T,T,T,T,T,T,T,T,T,F,F,F,F,F] rfl rfl (take_ofW HT_.out HW_.out (by kernel_rfl)) (fun _ _ _ h => h) (Or.inl ⟨by rfl, ?_⟩) hHeld ?_ ?_
                       rotate_left
                       ·rintro w' ⟨s0, s1⟩
                        go_simp
                        with_reducible rfl
                       rotate_left
                       ·simp only [Act.put, sA, sB, sC, i64_w, i32_w]
                        rfl
                       refine take_ (i := 9) (N := some 85) (v := ?_) (a' := ?_) #[T,T,T,T,T,T,T,T,T,T,F,F,F,F] rfl rfl (take_ofW HT_.out HW_.out (by kernel_rfl)) (fun _ _ _ h => h) (Or.inl ⟨by rfl, ?_⟩) hHeld ?_ ?_
                       rotate_left
                       ·rintro w' ⟨s0, s1⟩
                        go_simp
                        with_reducible rfl
                       rotate_left
                       ·simp only [Act.put, sA, sB, sC, i64_w, i32_w]
                        rfl
                       refine pure_ (i := 10) (N := some 86) (v := ?_) (a' := ?_) #[T,T,T,T,T,T,T,T,T,T,T,F,F,F] rfl rfl (any_of HT_.out (by kernel_rfl)) (fun _ _ _ h => h) (Or.inl ⟨by rfl, ?_⟩) ?_ ?_; rotate_left; (next => intro w'; go_simp; with_reducible rfl); rotate_left; next => simp only [Act.put, sA, sB, sC, i64_w, i32_w]; rfl
                       refine one_ (i := 11) (N := some 87) #[T,T,T,T,T,T,T,T,T,T,T,T,F,F] rfl rfl (one_of HT_.out (by kernel_rfl)) (by decide) (fun K hK => ?_)
                       refine goes_ Try.func65 (by kernel_rfl) rfl #[.int .i64 1000000000000001, .int .i64 (wrap64 ((rd x10_2 t389) + (rd x10_2 t381)))] (by rfl) rfl rfl (by (try simp only [List.map_toArray, List.map_cons, List.map_nil]); first | done | rfl | (simp only [List.length_drop, List.length_take]; rfl)) ?_
                       with_reducible refine (spec_l1Least.calls 1000000000000001 (wrap64 ((rd x10_2 t389) + (rd x10_2 t381))) t394 _ A48.out).mono ?_
                       rintro e w' ⟨rfl, ⟨nd, rfl⟩⟩
                       refine ⟨_, rfl, ?_⟩
                       have p49 : 0 ≤ (t389 : Int) := of_decide_eq_true (by first | (with_reducible assumption) | assumption)
                       have q49 : (t389 : Int) < ((x10_2.length : Int) : Int) := of_decide_eq_true (by first | (with_reducible assumption) | assumption)
                       obtain ⟨hx49_0, hf49_0⟩ := Kd.R_celln 0 HO_10.out (t389 : Int) p49 q49
                       replace p49 := eq_true p49
                       replace q49 := eq_true q49
                       have HP59 := Kd.R_putn HO_10.out (t389 : Int) t394
                       rw [← Ny395.out] at HP59
                       have HQ59 := aM HP59
                       clear HP59
                       refine hK.out _ _ ⟨hHeld.1, hHeld.2⟩ (fun hHeld => ?_)
                       clear hK K
                       refine norm_ (a' := ?_) ?_ ?_
                       rotate_left
                       ·show Act.put _ (some 87) _ = _
                        simp only [Act.put, sA, sB, sC, i64_w, i32_w]
                        rfl
                       refine pure_ (i := 12) (N := some 88) (v := ?_) (a' := ?_) #[T,T,T,T,T,T,T,T,T,T,T,T,T,F] rfl rfl (any_of HT_.out (by kernel_rfl)) (fun _ _ _ h => h) (Or.inl ⟨by rfl, ?_⟩) ?_ ?_; rotate_left; (next => intro w'; go_simp; with_reducible rfl); rotate_left; next => simp only [Act.put, sA, sB, sC, i64_w, i32_w]; rfl
                       refine last_ (i := 13) (N := none) #[T,T,T,T,T,T,T,T,T,T,T,T,T,T] rfl rfl (one_of HT_.out (by kernel_rfl)) (by decide) (fun K hK => ?_)
                       refine skip_ (w1 := ?_) (by rfl) rfl ?_ ?_
                       rotate_left
                       ·go_simp
                        rfl
                       refine hK.out _ _ ?_
                       clear hK K
                       refine done_ (done_of HT_.out (by kernel_rfl)) ?_
                       try go_wp2
                       (try simp only [← hl10_2])
                       go_roundg k2
                       case measure => have := HK1.out; have := HK2.out; omega
                       case rel => exact ⟨(y395), (wrap64 (x52_2 + 1)), (by first | rfl | (simp; done) | (simp [*]; done)), H', ⟨by have := HK1.out; have := HK2.out; omega⟩, ⟨by (try simp only [hl10_1]); (try simp only [hl10_2]); (with_reducible repeat (first | apply rA | apply rN | apply rD)); exact Kd.R_mono (Kd.R_far (p := ⟨go12, (t389 : Int).toNat, none⟩) (Kd.R_mono HO_8.out (fun k_ hk => (⟨hk, fun e_ => hk (by rw [e_]; rfl)⟩ : _ ∧ k_ ≠ go12))) (fun _ hk => hk.2) (.int .i64 t394)) (fun _ hk => hk.1)⟩, ⟨by (try simp only [hl10_1]); (try simp only [hl10_2]); (with_reducible repeat (first | apply rA | apply rN | apply rD)); exact HQ59.out⟩, ⟨by (try simp only [hl10_1]); (try simp only [hl10_2]); (with_reducible repeat (first | apply rA | apply rN | apply rD)); exact Kd.R_mono (Kd.R_far (p := ⟨go12, (t389 : Int).toNat, none⟩) (Kd.R_types (t := 3) HO_39.out (by first | exact GG12.out | exact (Kd.R_typed HO_10.out _ rfl).choose_spec) (by decide)) (fun _ hk => hk.2) (.int .i64 t394)) (fun _ hk => trivial)⟩, ⟨by (try simp only [hl10_1]); (try simp only [hl10_2]); (with_reducible repeat (first | apply rA | apply rN | apply rD)); exact Kd.R_mono (Kd.R_far (p := ⟨go12, (t389 : Int).toNat, none⟩) (Kd.R_types (t := 3) HO_50.out (by first | exact GG12.out | exact (Kd.R_typed HO_10.out _ rfl).choose_spec) (by decide)) (fun _ hk => hk.2) (.int .i64 t394)) (fun _ hk => trivial)⟩, ⟨by (try simp only [hl10_1]); (try simp only [hl10_2]); (with_reducible repeat (first | refine kN ?_ _ | refine kD ?_ | refine kA ?_ _)); refine blk_far ?_ (by have h_ := Kd.R_ne HO_10.out BK365.out (by decide); intro e_; exact h_ (by rw [e_]; rfl)) _; (with_reducible repeat (first | refine kN ?_ _ | refine kD ?_ | refine kA ?_ _)); exact BK365.out⟩, ⟨by repeat (first | (with_reducible first | exact HB.out | apply bA | apply bN | apply bD | refine bS ?_ GB12.out | refine bS ?_ GE365.out | refine bS ?_ GE386.out) | exact HB.out)⟩⟩
                      ·rw [if_neg c47] at H
                       exact absurd H (by simp)
                     ·rw [if_neg c46] at H
                      exact absurd H (by simp)
                    ·rw [if_neg c45] at H
                     have c45b0 : ((rd t367 t389) == (wrap64 ((rd t367 t381) + 1))) = false := beq_eq_false_iff_ne.mpr c45
                     have c45b1 : ((rd t367 t389) != (wrap64 ((rd t367 t381) + 1))) = true := bne_iff_ne.mpr c45
                     have H' := aM H
                     clear H
                     have p385 : 0 ≤ (x52_2 : Int) := of_decide_eq_true (by first | (with_reducible assumption) | assumption)
                     have q385 : x52_2 < (t382.length : Int) := of_decide_eq_true (by first | (with_reducible assumption) | assumption)
                     obtain ⟨ad385, e385, hx385_0, hx385_1⟩ := at_T35 (Kd.R_reads' HO_50.out).2.2 x52_2 p385 q385
                     cases e385
                     replace p385 := eq_true p385
                     replace q385 := eq_true q385
                     try go_wp2_with (first | ((with_reducible refine gate_dst (N := 15) rfl ?_); refine box_event ?hg (N := 15) ?hd (cs := #[.int .i64 0, .int .i64 0]) (t := 35) ?hr ?_; (case hd => rfl); (case hg => rfl); (case hr => first | (go_simp; done) | (go_simp; rfl)); intro gb386 hg w60 hbox hb; have n0_ := aM (Kd.R_below (by (with_reducible repeat (first | apply rA | apply rN | apply rD)); exact HO_8.out) hb); have n1_ := aM (Kd.R_below (by (with_reducible repeat (first | apply rA | apply rN | apply rD)); exact HO_10.out) hb); have n2_ := aM (Kd.R_below (by (with_reducible repeat (first | apply rA | apply rN | apply rD)); exact HO_39.out) hb); have n3_ := aM (Kd.R_below (Kd.R_elderB (by (with_reducible repeat (first | apply rA | apply rN | apply rD)); exact HO_50.out) gb386 (Nat.le_of_eq hg.symm)) hb); have n4_ := aM (blk_below (g := gb365) (o := .cells #[.slice A0_0 l0_0.length c0_0, .slice A0_1 l0_1.length c0_1] 33 (0, 0)) (by (with_reducible repeat (first | refine kN ?_ _ | refine kD ?_ | refine kA ?_ _)); exact BK365.out) hb); have n5_ := aM (below_step (by repeat (first | (with_reducible first | exact HB.out | apply bA | apply bN | apply bD | refine bS ?_ GE365.out) | exact HB.out)) hb); have n6_ := aM (hbox); have n7_ := aM ((by rw [hg]; exact (below_size (by repeat (first | (with_reducible first | exact HB.out | apply bA | apply bN | apply bD | refine bS ?_ GE365.out) | exact HB.out))) : w.heap.size ≤ gb386)); have n8_ := aM ((by rw [hg]; exact (below_size (by repeat (first | (with_reducible first | exact HB.out | apply bA | apply bN | apply bD | refine bS ?_ GE365.out) | exact HB.out))) : w.heap.size ≤ gb386)); have n9_ := aM ((by rw [hg]; exact Nat.ne_of_lt (blk_lt (g := gb365) (o := .cells #[.slice A0_0 l0_0.length c0_0, .slice A0_1 l0_1.length c0_1] 33 (0, 0)) (by (with_reducible repeat (first | refine kN ?_ _ | refine kD ?_ | refine kA ?_ _)); exact BK365.out)) : gb365 ≠ gb386)); have n10_ := aM ((by rw [hg]; exact Nat.ne_of_gt (blk_lt (g := gb365) (o := .cells #[.slice A0_0 l0_0.length c0_0, .slice A0_1 l0_1.length c0_1] 33 (0, 0)) (by (with_reducible repeat (first | refine kN ?_ _ | refine kD ?_ | refine kA ?_ _)); exact BK365.out)) : gb386 ≠ gb365)); clear HO_8; clear HO_10; clear HO_39; clear HO_50; clear BK365; clear HB; have HO_8 := n0_; have HO_10 := n1_; have HO_39 := n2_; have HO_50 := n3_; have BK365 := n4_; have HB := n5_; have BK386 := n6_; have GW386 := n7_; have GE386 := n8_; have NB365_386 := n9_; have NB386_365 := n10_; clear n0_ n1_ n2_ n3_ n4_ n5_ n6_ n7_ n8_ n9_ n10_; clear hb hbox hg; have hnb61 := NB386_365.out; have hnc61 := NB365_386.out; have hcz62_0 : w60.cell? ⟨gb386, 0, none⟩ = some (.int .i64 0) := (blk_cell BK386.out 0).trans rfl; have hcz62_1 : w60.cell? ⟨gb386, 1, none⟩ = some (.int .i64 0) := (blk_cell BK386.out 1).trans rfl; have hfz62_0 := blk_frozen BK386.out 0; have hfz62_1 := blk_frozen BK386.out 1; have hcz63_0 : w60.cell? ⟨gb365, 0, none⟩ = some (.slice A0_0 l0_0.length c0_0) := (blk_cell BK365.out 0).trans rfl; have hcz63_1 : w60.cell? ⟨gb365, 1, none⟩ = some (.slice A0_1 l0_1.length c0_1) := (blk_cell BK365.out 1).trans rfl; have hfz63_0 := blk_frozen BK365.out 0; have hfz63_1 := blk_frozen BK365.out 1) | ((with_reducible refine gate_callee (f := 47) rfl ?_); refine goesL_ (some 60) rfl rfl Try.func47 (by kernel_rfl) rfl #[.agg #[.slice A0_0 l0_0.length c0_0, .slice A0_1 l0_1.length c0_1], .string (rdOf ByteArray.empty t370 x41_1), .agg #[.int .i64 ((rd_T35 t382 x52_2).f0), .int .i64 ((rd_T35 t382 x52_2).f1)]] rfl (by (try simp only [List.map_toArray, List.map_cons, List.map_nil]); first | done | rfl | (simp only [List.length_drop, List.length_take]; rfl)) ?_; (with_reducible refine (spec_boPut.calls k2 _ _ l0_0 _ _ l0_1 (rdOf ByteArray.empty t370 x41_1) ((rd_T35 t382 x52_2).f0) ((rd_T35 t382 x52_2).f1) t387 t388 _ ?side1 ?side2 ?side3 ?side4 A39.out).mono ?_); (case side1 => exact Kd.C_below HR0_0.out (by repeat (first | (with_reducible first | exact HB.out | apply bA | apply bN | apply bD | refine bS ?_ GE365.out | refine bS ?_ GE386.out) | exact HB.out))); (case side2 => exact HC0_0.out); (case side3 => exact Kd.C_below HR0_1.out (by repeat (first | (with_reducible first | exact HB.out | apply bA | apply bN | apply bD | refine bS ?_ GE365.out | refine bS ?_ GE386.out) | exact HB.out))); (case side4 => exact HC0_1.out); rintro e w64 ⟨rfl, hb⟩; refine ⟨_, rfl, ?_⟩; have n0_ := aM (Kd.R_below (by (with_reducible repeat (first | apply rA | apply rN | apply rD)); exact (Kd.R_mono (Kd.R_far (p := ⟨gb386, 1, none⟩) (Kd.R_far (p := ⟨gb386, 0, none⟩) (Kd.R_types HO_8.out BK386.out (by decide)) (fun _ hk => hk.2) (.int .i64 ((rd_T35 t382 x52_2).f0))) (fun _ hk => hk.2) (.int .i64 ((rd_T35 t382 x52_2).f1))) (fun _ h_ => h_.1))) hb); have n1_ := aM (Kd.R_below (by (with_reducible repeat (first | apply rA | apply rN | apply rD)); exact (Kd.R_mono (Kd.R_far (p := ⟨gb386, 1, none⟩) (Kd.R_far (p := ⟨gb386, 0, none⟩) (Kd.R_types HO_10.out BK386.out (by decide)) (fun _ hk => hk.2) (.int .i64 ((rd_T35 t382 x52_2).f0))) (fun _ hk => hk.2) (.int .i64 ((rd_T35 t382 x52_2).f1))) (fun _ h_ => h_.1))) hb); have n2_ := aM (Kd.R_below (by (with_reducible repeat (first | apply rA | apply rN | apply rD)); exact (Kd.R_mono (Kd.R_far (p := ⟨gb386, 1, none⟩) (Kd.R_far (p := ⟨gb386, 0, none⟩) (Kd.R_types HO_39.out BK386.out (by decide)) (fun _ hk => hk.2) (.int .i64 ((rd_T35 t382 x52_2).f0))) (fun _ hk => hk.2) (.int .i64 ((rd_T35 t382 x52_2).f1))) (fun _ h_ => h_.1))) hb); have n3_ := aM (Kd.R_below (by (with_reducible repeat (first | apply rA | apply rN | apply rD)); exact (Kd.R_mono (Kd.R_far (p := ⟨gb386, 1, none⟩) (Kd.R_far (p := ⟨gb386, 0, none⟩) (Kd.R_mono HO_50.out (fun k_ hk => (⟨hk, hk.2⟩ : _ ∧ k_ ≠ gb386))) (fun _ hk => hk.2) (.int .i64 ((rd_T35 t382 x52_2).f0))) (fun _ hk => hk.2) (.int .i64 ((rd_T35 t382 x52_2).f1))) (fun _ h_ => h_.1))) hb); have n4_ := aM (blk_below (g := gb365) (o := .cells #[.slice A0_0 l0_0.length c0_0, .slice A0_1 l0_1.length c0_1] 33 (0, 0)) (by (with_reducible repeat (first | refine kN ?_ _ | refine kD ?_ | refine kA ?_ _)); refine blk_far ?_ NB365_386.out _; (with_reducible repeat (first | refine kN ?_ _ | refine kD ?_ | refine kA ?_ _)); refine blk_far ?_ NB365_386.out _; (with_reducible repeat (first | refine kN ?_ _ | refine kD ?_ | refine kA ?_ _)); exact BK365.out) hb); have n5_ := aM (blk_below (g := gb386) (o := .cells #[.int .i64 ((rd_T35 t382 x52_2).f0), .int .i64 ((rd_T35 t382 x52_2).f1)] 35 (0, 0)) (by (with_reducible repeat (first | refine kN ?_ _ | refine kD ?_ | refine kA ?_ _)); refine blk_put (cs := #[.int .i64 ((rd_T35 t382 x52_2).f0), .int .i64 0]) ?_ 1 _ rfl; (with_reducible repeat (first | refine kN ?_ _ | refine kD ?_ | refine kA ?_ _)); refine blk_put (cs := #[.int .i64 0, .int .i64 0]) ?_ 0 _ rfl; (with_reducible repeat (first | refine kN ?_ _ | refine kD ?_ | refine kA ?_ _)); exact BK386.out) hb); have n6_ := aM (below_step (by repeat (first | (with_reducible first | exact HB.out | apply bA | apply bN | apply bD | refine bS ?_ GE365.out | refine bS ?_ GE386.out) | exact HB.out)) hb); clear HO_8; clear HO_10; clear HO_39; clear HO_50; clear BK365; clear BK386; clear HB; have HO_8 := n0_; have HO_10 := n1_; have HO_39 := n2_; have HO_50 := n3_; have BK365 := n4_; have BK386 := n5_; have HB := n6_; clear n0_ n1_ n2_ n3_ n4_ n5_ n6_; (try clear hb); (try clear hb2); (try clear hk); (try clear hi); have hcz65_0 : w64.cell? ⟨gb365, 0, none⟩ = some (.slice A0_0 l0_0.length c0_0) := (blk_cell BK365.out 0).trans rfl; have hcz65_1 : w64.cell? ⟨gb365, 1, none⟩ = some (.slice A0_1 l0_1.length c0_1) := (blk_cell BK365.out 1).trans rfl; have hfz65_0 := blk_frozen BK365.out 0; have hfz65_1 := blk_frozen BK365.out 1) | ((with_reducible refine gate_callee (f := 57) rfl ?_); refine goesL_ (some 65) rfl rfl Try.func57 (by kernel_rfl) rfl #[.agg #[.slice A0_0 l0_0.length c0_0, .slice A0_1 l0_1.length c0_1], .string t387] rfl (by (try simp only [List.map_toArray, List.map_cons, List.map_nil]); first | done | rfl | (simp only [List.length_drop, List.length_take]; rfl)) ?_; (with_reducible refine (spec_boNumber.calls k2 _ _ l0_0 _ _ l0_1 t387 t389 _ ?side1 ?side2 ?side3 ?side4 A40.out).mono ?_); (case side1 => repeat (first | exact (Kd.C_below HR0_0.out HB.out) | (with_reducible refine cA ?_ _) | (with_reducible refine cN ?_ _) | (with_reducible refine cD ?_))); (case side2 => exact HC0_0.out); (case side3 => repeat (first | exact (Kd.C_below HR0_1.out HB.out) | (with_reducible refine cA ?_ _) | (with_reducible refine cN ?_ _) | (with_reducible refine cD ?_))); (case side4 => exact HC0_1.out); rintro e w66 ⟨rfl, hb⟩; refine ⟨_, rfl, ?_⟩; have n0_ := aM (Kd.R_below (by (with_reducible repeat (first | apply rA | apply rN | apply rD)); exact HO_8.out) hb); have n1_ := aM (Kd.R_below (by (with_reducible repeat (first | apply rA | apply rN | apply rD)); exact HO_10.out) hb); have n2_ := aM (Kd.R_below (by (with_reducible repeat (first | apply rA | apply rN | apply rD)); exact HO_39.out) hb); have n3_ := aM (Kd.R_below (by (with_reducible repeat (first | apply rA | apply rN | apply rD)); exact HO_50.out) hb); have n4_ := aM (blk_below (g := gb365) (o := .cells #[.slice A0_0 l0_0.length c0_0, .slice A0_1 l0_1.length c0_1] 33 (0, 0)) (by (with_reducible repeat (first | refine kN ?_ _ | refine kD ?_ | refine kA ?_ _)); exact BK365.out) hb); have n5_ := aM (blk_below (g := gb386) (o := .cells #[.int .i64 ((rd_T35 t382 x52_2).f0), .int .i64 ((rd_T35 t382 x52_2).f1)] 35 (0, 0)) (by (with_reducible repeat (first | refine kN ?_ _ | refine kD ?_ | refine kA ?_ _)); exact BK386.out) hb); have n6_ := aM (below_step (by repeat (first | (with_reducible first | exact HB.out | apply bA | apply bN | apply bD | refine bS ?_ GE365.out | refine bS ?_ GE386.out) | exact HB.out)) hb); clear HO_8; clear HO_10; clear HO_39; clear HO_50; clear BK365; clear BK386; clear HB; have HO_8 := n0_; have HO_10 := n1_; have HO_39 := n2_; have HO_50 := n3_; have BK365 := n4_; have BK386 := n5_; have HB := n6_; clear n0_ n1_ n2_ n3_ n4_ n5_ n6_; (try clear hb); (try clear hb2); (try clear hk); (try clear hi)))
                     have n0_ := aM (Kd.R_drew HO_8.out)
                     have n1_ := aM (Kd.R_drew HO_10.out)
                     have n2_ := aM (Kd.R_drew HO_39.out)
                     have n3_ := aM (Kd.R_drew HO_50.out)
                     have n4_ := aM (blk_drew BK365.out)
                     have n5_ := aM (blk_drew BK386.out)
                     have n6_ := aM (below_drew1 HB.out)
                     clear HO_8 HO_10 HO_39 HO_50 BK365 BK386 HB
                     have HO_8 := n0_
                     have HO_10 := n1_
                     have HO_39 := n2_
                     have HO_50 := n3_
                     have BK365 := n4_
                     have BK386 := n5_
                     have HB := n6_
                     clear n0_ n1_ n2_ n3_ n4_ n5_ n6_
                     have p390 : 0 ≤ (t389 : Int) := of_decide_eq_true (by first | (with_reducible assumption) | assumption)
                     have q390 : t389 < (t367.length : Int) := of_decide_eq_true (by first | (with_reducible assumption) | assumption)
                     obtain ⟨ad390, e390, hx390_0⟩ := Kd.at_int (Kd.R_reads' HO_8.out).2.2 t389 p390 q390
                     cases e390
                     replace p390 := eq_true p390
                     replace q390 := eq_true q390
                     have p391 : 0 ≤ (t381 : Int) := of_decide_eq_true (by first | (with_reducible assumption) | assumption)
                     have q391 : t381 < (t367.length : Int) := of_decide_eq_true (by first | (with_reducible assumption) | assumption)
                     obtain ⟨ad391, e391, hx391_0⟩ := Kd.at_int (Kd.R_reads' HO_8.out).2.2 t381 p391 q391
                     obtain rfl : ad390 = ad391 := (by injection e391)
                     replace p391 := eq_true p391
                     replace q391 := eq_true q391
                     refine start_ (n := 10) (S := fun w' => w'.cell? (ad390.add (t389).toNat) = some (.int .i64 (rd t367 t389)) ∧ w'.cell? (ad390.add (t381).toNat) = some (.int .i64 (rd t367 t381))) (ds := []) #[F,F,F,F,F,F,F,F,F,F] (by kernel_rfl) rfl rfl ⟨hx390_0, hx391_0⟩ (fun hHeld => ?_); refine with_tabW spec_CountSlideWays.tab15 spec_CountSlideWays.bits15 (fun HT_ HW_ => ?_)
                     generalize w66.drew = w67 at HO_8 HO_10 HO_39 HO_50 BK365 BK386 HB hx390_0 hx391_0 hHeld ⊢
                     refine pure_ (i := 0) (N := some 66) (v := ?_) (a' := ?_) #[T,F,F,F,F,F,F,F,F,F] rfl rfl (any_of HT_.out (by kernel_rfl)) (fun _ _ _ h => h) (Or.inl ⟨by rfl, ?_⟩) ?_ ?_; rotate_left; (next => intro w'; go_simp; with_reducible rfl); rotate_left; next => simp only [Act.put, sA, sB, sC, i64_w, i32_w]; rfl
                     refine pure_ (i := 1) (N := some 67) (v := ?_) (a' := ?_) #[T,T,F,F,F,F,F,F,F,F] rfl rfl (any_of HT_.out (by kernel_rfl)) (fun _ _ _ h => h) (Or.inl ⟨by rfl, ?_⟩) ?_ ?_; rotate_left; (next => intro w'; go_simp; with_reducible rfl); rotate_left; next => simp only [Act.put, sA, sB, sC, i64_w, i32_w]; rfl
                     refine pure_ (i := 2) (N := some 68) (v := ?_) (a' := ?_) #[T,T,T,F,F,F,F,F,F,F] rfl rfl (any_of HT_.out (by kernel_rfl)) (fun _ _ _ h => h) (Or.inl ⟨by rfl, ?_⟩) ?_ ?_; rotate_left; (next => intro w'; go_simp; with_reducible rfl); rotate_left; next => simp only [Act.put, sA, sB, sC, i64_w, i32_w]; rfl
                     refine pure_ (i := 4) (N := some 70) (v := ?_) (a' := ?_) #[T,T,T,F,T,F,F,F,F,F] rfl rfl (any_of HT_.out (by kernel_rfl)) (fun _ _ _ h => h) (Or.inl ⟨by rfl, ?_⟩) ?_ ?_; rotate_left; (next => intro w'; go_simp; with_reducible rfl); rotate_left; next => simp only [Act.put, sA, sB, sC, i64_w, i32_w]; rfl
                     refine pure_ (i := 5) (N := some 71) (v := ?_) (a' := ?_) #[T,T,T,F,T,T,F,F,F,F] rfl rfl (any_of HT_.out (by kernel_rfl)) (fun _ _ _ h => h) (Or.inl ⟨by rfl, ?_⟩) ?_ ?_; rotate_left; (next => intro w'; go_simp; with_reducible rfl); rotate_left; next => simp only [Act.put, sA, sB, sC, i64_w, i32_w]; rfl
                     refine pure_ (i := 6) (N := some 72) (v := ?_) (a' := ?_) #[T,T,T,F,T,T,T,F,F,F] rfl rfl (any_of HT_.out (by kernel_rfl)) (fun _ _ _ h => h) (Or.inl ⟨by rfl, ?_⟩) ?_ ?_; rotate_left; (next => intro w'; go_simp; with_reducible rfl); rotate_left; next => simp only [Act.put, sA, sB, sC, i64_w, i32_w]; rfl
                     refine take_ (i := 3) (N := some 69) (v := ?_) (a' := ?_) #[T,T,T,T,T,T,T,F,F,F] rfl rfl (take_ofW HT_.out HW_.out (by kernel_rfl)) (fun _ _ _ h => h) (Or.inl ⟨by rfl, ?_⟩) hHeld ?_ ?_
                     rotate_left
                     ·rintro w' ⟨s0, s1⟩
                      go_simp
                      with_reducible rfl
                     rotate_left
                     ·simp only [Act.put, sA, sB, sC, i64_w, i32_w]
                      rfl
                     refine take_ (i := 7) (N := some 73) (v := ?_) (a' := ?_) #[T,T,T,T,T,T,T,T,F,F] rfl rfl (take_ofW HT_.out HW_.out (by kernel_rfl)) (fun _ _ _ h => h) (Or.inl ⟨by rfl, ?_⟩) hHeld ?_ ?_
                     rotate_left
                     ·rintro w' ⟨s0, s1⟩
                      go_simp
                      with_reducible rfl
                     rotate_left
                     ·simp only [Act.put, sA, sB, sC, i64_w, i32_w]
                      rfl
                     refine pure_ (i := 8) (N := some 74) (v := ?_) (a' := ?_) #[T,T,T,T,T,T,T,T,T,F] rfl rfl (any_of HT_.out (by kernel_rfl)) (fun _ _ _ h => h) (Or.inl ⟨by rfl, ?_⟩) ?_ ?_; rotate_left; (next => intro w'; go_simp; with_reducible rfl); rotate_left; next => simp only [Act.put, sA, sB, sC, i64_w, i32_w]; rfl
                     refine pure_ (i := 9) (N := some 75) (v := ?_) (a' := ?_) #[T,T,T,T,T,T,T,T,T,T] rfl rfl (any_of HT_.out (by kernel_rfl)) (fun _ _ _ h => h) (Or.inl ⟨by rfl, ?_⟩) ?_ ?_; rotate_left; (next => intro w'; go_simp; with_reducible rfl); rotate_left; next => simp only [Act.put, sA, sB, sC, i64_w, i32_w]; rfl
                     refine done_ (done_of HT_.out (by kernel_rfl)) ?_
                     try go_wp2
                     (try simp only [← hl10_2])
                     go_roundg k2
                     case measure => have := HK1.out; have := HK2.out; omega
                     case rel => exact ⟨(x10_2), (wrap64 (x52_2 + 1)), (by first | rfl | (simp; done) | (simp [*]; done)), H', ⟨by have := HK1.out; have := HK2.out; omega⟩, ⟨by (try simp only [hl10_1]); (try simp only [hl10_2]); (with_reducible repeat (first | apply rA | apply rN | apply rD)); exact HO_8.out⟩, ⟨by (try simp only [hl10_1]); (try simp only [hl10_2]); (with_reducible repeat (first | apply rA | apply rN | apply rD)); exact HO_10.out⟩, ⟨by (try simp only [hl10_1]); (try simp only [hl10_2]); (with_reducible repeat (first | apply rA | apply rN | apply rD)); exact HO_39.out⟩, ⟨by (try simp only [hl10_1]); (try simp only [hl10_2]); (with_reducible repeat (first | apply rA | apply rN | apply rD)); exact Kd.R_mono HO_50.out (fun _ hk => trivial)⟩, ⟨by (try simp only [hl10_1]); (try simp only [hl10_2]); (with_reducible repeat (first | refine kN ?_ _ | refine kD ?_ | refine kA ?_ _)); exact BK365.out⟩, ⟨by repeat (first | (with_reducible first | exact HB.out | apply bA | apply bN | apply bD | refine bS ?_ GE365.out | refine bS ?_ GE386.out) | exact HB.out)⟩⟩
                   ·rw [if_neg c44] at H
                    exact absurd H (by simp)
                  ·rw [if_neg c43] at H
                   exact absurd H (by simp)
                 ·rw [if_neg c42] at H
                  exact absurd H (by simp)
                ·rw [if_neg c41] at H
                 exact absurd H (by simp)
               ·rw [if_neg c38] at H
                exact absurd H (by simp)
              ·rw [if_neg c37] at H
               exact absurd H (by simp)
             ·rw [if_neg c36] at H
              have c36b0 : decide (x52_2 < (t382.length : Int)) = false := decide_eq_false c36
              (try (have c36m0 := c36b0; simp only [hl10_1] at c36m0)); (try (have c36m1 := c36b0; simp only [hl10_2] at c36m1))
              clear c36
              have H' := aM H
              clear H
              go_wp2
              (try simp only [← hl10_1, ← hl10_2])
              go_roundg k2
              case measure => have := HK1.out; have := HK2.out; omega
              case rel => exact ⟨(x10_2), (wrap64 (x41_1 + 1)), (by first | rfl | (simp; done) | (simp [*]; done)), H', ⟨by have := HK1.out; have := HK2.out; omega⟩, ⟨by (try simp only [hl10_1]); (try simp only [hl10_2]); (with_reducible repeat (first | apply rA | apply rN | apply rD)); exact HO_8.out⟩, ⟨by (try simp only [hl10_1]); (try simp only [hl10_2]); (with_reducible repeat (first | apply rA | apply rN | apply rD)); exact HO_10.out⟩, ⟨by (try simp only [hl10_1]); (try simp only [hl10_2]); (with_reducible repeat (first | apply rA | apply rN | apply rD)); exact HO_39.out⟩, ⟨by (try simp only [hl10_1]); (try simp only [hl10_2]); (with_reducible repeat (first | refine kN ?_ _ | refine kD ?_ | refine kA ?_ _)); exact BK365.out⟩, ⟨by repeat (first | (with_reducible first | exact HB.out | apply bA | apply bN | apply bD | refine bS ?_ GE365.out) | exact HB.out)⟩⟩
          ·rw [if_neg c28] at H
           exact absurd H (by simp)
         ·rw [if_neg c27] at H
          exact absurd H (by simp)
        ·rw [if_neg c26] at H
         have c26b0 : decide (x41_1 < (t370.length : Int)) = false := decide_eq_false c26
         (try (have c26m0 := c26b0; simp only [hl10_1] at c26m0))
         clear c26
         replace H := Option.bind_eq_some_iff.mp H
         obtain ⟨t378, A680, H⟩ := H
         replace H : (if 0 ≤ t378 then (if t378 < (x10_1.length : Int) then (if (rd x10_1 t378) > 1000000000000000 then (some (0, false)) else (some (rd x10_1 t378, true))) else (none)) else (none)) = some (r1, r2) := H
         have A68 := aM A680
         clear A680
         by_cases c69 : 0 ≤ t378
         ·rw [if_pos c69] at H
          have c69b0 : decide (0 ≤ t378) = true := decide_eq_true c69
          clear c69
          by_cases c70 : t378 < (x10_1.length : Int)
          ·rw [if_pos c70] at H
           have c70b0 : decide (t378 < (x10_1.length : Int)) = true := decide_eq_true c70
           (try (have c70m0 := c70b0; simp only [hl10_1] at c70m0))
           clear c70
           by_cases c71 : (rd x10_1 t378) > 1000000000000000
           ·rw [if_pos c71] at H
            have c71b0 : decide (1000000000000000 < (rd x10_1 t378)) = true := decide_eq_true c71
            clear c71
            simp only [Option.some.injEq, Prod.mk.injEq] at H
            obtain ⟨rfl, rfl⟩ := H
            have hcz72_0 : wr.cell? ⟨gb365, 0, none⟩ = some (.slice A0_0 l0_0.length c0_0) := (blk_cell BK365.out 0).trans rfl
            have hcz72_1 : wr.cell? ⟨gb365, 1, none⟩ = some (.slice A0_1 l0_1.length c0_1) := (blk_cell BK365.out 1).trans rfl
            have hfz72_0 := blk_frozen BK365.out 0
            have hfz72_1 := blk_frozen BK365.out 1
            go_wp2_with (first | ((with_reducible refine gate_callee (f := 57) rfl ?_); refine goesL_ (some 94) rfl rfl Try.func57 (by kernel_rfl) rfl #[.agg #[.slice A0_0 l0_0.length c0_0, .slice A0_1 l0_1.length c0_1], .string a2] rfl (by (try simp only [List.map_toArray, List.map_cons, List.map_nil]); first | done | rfl | (simp only [List.length_drop, List.length_take]; rfl)) ?_; (with_reducible refine (spec_boNumber.calls k1 _ _ l0_0 _ _ l0_1 a2 t378 _ ?side1 ?side2 ?side3 ?side4 A68.out).mono ?_); (case side1 => repeat (first | exact (Kd.C_below HR0_0.out HB.out) | (with_reducible refine cA ?_ _) | (with_reducible refine cN ?_ _) | (with_reducible refine cD ?_))); (case side2 => exact HC0_0.out); (case side3 => repeat (first | exact (Kd.C_below HR0_1.out HB.out) | (with_reducible refine cA ?_ _) | (with_reducible refine cN ?_ _) | (with_reducible refine cD ?_))); (case side4 => exact HC0_1.out); rintro e w73 ⟨rfl, hb⟩; refine ⟨_, rfl, ?_⟩; have n0_ := aM (Kd.R_below (by (with_reducible repeat (first | apply rA | apply rN | apply rD)); exact HO_8.out) hb); have n1_ := aM (Kd.R_below (by (with_reducible repeat (first | apply rA | apply rN | apply rD)); exact HO_10.out) hb); have n2_ := aM (Kd.R_below (by (with_reducible repeat (first | apply rA | apply rN | apply rD)); exact HO_39.out) hb); have n3_ := aM (blk_below (g := gb365) (o := .cells #[.slice A0_0 l0_0.length c0_0, .slice A0_1 l0_1.length c0_1] 33 (0, 0)) (by (with_reducible repeat (first | refine kN ?_ _ | refine kD ?_ | refine kA ?_ _)); exact BK365.out) hb); have n4_ := aM (below_step (by repeat (first | (with_reducible first | exact HB.out | apply bA | apply bN | apply bD | refine bS ?_ GE365.out) | exact HB.out)) hb); clear HO_8; clear HO_10; clear HO_39; clear BK365; clear HB; have HO_8 := n0_; have HO_10 := n1_; have HO_39 := n2_; have BK365 := n3_; have HB := n4_; clear n0_ n1_ n2_ n3_ n4_; (try clear hb); (try clear hb2); (try clear hk); (try clear hi); have p379 : 0 ≤ (t378 : Int) := of_decide_eq_true (by first | (with_reducible assumption) | assumption); have q379 : t378 < (x10_1.length : Int) := of_decide_eq_true (by first | (with_reducible assumption) | assumption); obtain ⟨ad379, e379, hx379_0⟩ := Kd.at_int (Kd.R_reads' HO_10.out).2.2 t378 p379 q379; obtain rfl : (⟨go12, 0, none⟩ : Addr) = ad379 := (by injection e379); (first | simp only [add_plain] at hx379_0 | simp only [add_at] at hx379_0 | simp only [Addr.add, Nat.zero_add] at hx379_0 | skip); replace p379 := eq_true p379; replace q379 := eq_true q379))
            go_ret2
            exact ⟨by first | rfl | (simp [errW_none, errW_some] <;> rfl) | (simp [*, errW_none, errW_some] <;> rfl), by repeat (first | (with_reducible first | exact HB.out | apply bA | apply bN | apply bD | refine bS ?_ GE365.out) | exact HB.out)⟩
           ·rw [if_neg c71] at H
            have c71b0 : decide (1000000000000000 < (rd x10_1 t378)) = false := decide_eq_false c71
            clear c71
            simp only [Option.some.injEq, Prod.mk.injEq] at H
            obtain ⟨rfl, rfl⟩ := H
            have hcz74_0 : wr.cell? ⟨gb365, 0, none⟩ = some (.slice A0_0 l0_0.length c0_0) := (blk_cell BK365.out 0).trans rfl
            have hcz74_1 : wr.cell? ⟨gb365, 1, none⟩ = some (.slice A0_1 l0_1.length c0_1) := (blk_cell BK365.out 1).trans rfl
            have hfz74_0 := blk_frozen BK365.out 0
            have hfz74_1 := blk_frozen BK365.out 1
            go_wp2_with (first | ((with_reducible refine gate_callee (f := 57) rfl ?_); refine goesL_ (some 94) rfl rfl Try.func57 (by kernel_rfl) rfl #[.agg #[.slice A0_0 l0_0.length c0_0, .slice A0_1 l0_1.length c0_1], .string a2] rfl (by (try simp only [List.map_toArray, List.map_cons, List.map_nil]); first | done | rfl | (simp only [List.length_drop, List.length_take]; rfl)) ?_; (with_reducible refine (spec_boNumber.calls k1 _ _ l0_0 _ _ l0_1 a2 t378 _ ?side1 ?side2 ?side3 ?side4 A68.out).mono ?_); (case side1 => repeat (first | exact (Kd.C_below HR0_0.out HB.out) | (with_reducible refine cA ?_ _) | (with_reducible refine cN ?_ _) | (with_reducible refine cD ?_))); (case side2 => exact HC0_0.out); (case side3 => repeat (first | exact (Kd.C_below HR0_1.out HB.out) | (with_reducible refine cA ?_ _) | (with_reducible refine cN ?_ _) | (with_reducible refine cD ?_))); (case side4 => exact HC0_1.out); rintro e w75 ⟨rfl, hb⟩; refine ⟨_, rfl, ?_⟩; have n0_ := aM (Kd.R_below (by (with_reducible repeat (first | apply rA | apply rN | apply rD)); exact HO_8.out) hb); have n1_ := aM (Kd.R_below (by (with_reducible repeat (first | apply rA | apply rN | apply rD)); exact HO_10.out) hb); have n2_ := aM (Kd.R_below (by (with_reducible repeat (first | apply rA | apply rN | apply rD)); exact HO_39.out) hb); have n3_ := aM (blk_below (g := gb365) (o := .cells #[.slice A0_0 l0_0.length c0_0, .slice A0_1 l0_1.length c0_1] 33 (0, 0)) (by (with_reducible repeat (first | refine kN ?_ _ | refine kD ?_ | refine kA ?_ _)); exact BK365.out) hb); have n4_ := aM (below_step (by repeat (first | (with_reducible first | exact HB.out | apply bA | apply bN | apply bD | refine bS ?_ GE365.out) | exact HB.out)) hb); clear HO_8; clear HO_10; clear HO_39; clear BK365; clear HB; have HO_8 := n0_; have HO_10 := n1_; have HO_39 := n2_; have BK365 := n3_; have HB := n4_; clear n0_ n1_ n2_ n3_ n4_; (try clear hb); (try clear hb2); (try clear hk); (try clear hi); have p379 : 0 ≤ (t378 : Int) := of_decide_eq_true (by first | (with_reducible assumption) | assumption); have q379 : t378 < (x10_1.length : Int) := of_decide_eq_true (by first | (with_reducible assumption) | assumption); obtain ⟨ad379, e379, hx379_0⟩ := Kd.at_int (Kd.R_reads' HO_10.out).2.2 t378 p379 q379; obtain rfl : (⟨go12, 0, none⟩ : Addr) = ad379 := (by injection e379); (first | simp only [add_plain] at hx379_0 | simp only [add_at] at hx379_0 | simp only [Addr.add, Nat.zero_add] at hx379_0 | skip); replace p379 := eq_true p379; replace q379 := eq_true q379))
            go_ret2
            exact ⟨by first | rfl | (simp [errW_none, errW_some] <;> rfl) | (simp [*, errW_none, errW_some] <;> rfl), by repeat (first | (with_reducible first | exact HB.out | apply bA | apply bN | apply bD | refine bS ?_ GE365.out) | exact HB.out)⟩
          ·rw [if_neg c70] at H
           exact absurd H (by simp)
         ·rw [if_neg c69] at H
          exact absurd H (by simp)
     ·rw [if_neg c11] at H
      exact absurd H (by simp)
    ·rw [if_neg c10] at H
     exact absurd H (by simp)
   ·rw [if_neg c8] at H
    exact absurd H (by simp)
  ·rw [if_neg c7] at H
   exact absurd H (by simp)
 ·replace c5 := Bool.eq_false_iff.mpr c5
  subst c5
  have H1 : (some (0, false)) = some (r1, r2) := by rw [if_neg (show ¬ (false = true) by decide)] at H; exact H
  clear H; have H := H1; clear H1
  simp only [Option.some.injEq, Prod.mk.injEq] at H
  obtain ⟨rfl, rfl⟩ := H
  go_enter Try.func31, Try.ntmps31
  go_wp2_with (first | ((with_reducible refine gate_dst (N := 3) rfl ?_); refine box_event ?hg (N := 3) ?hd (cs := #[.slice A0_0 l0_0.length c0_0, .slice A0_1 l0_1.length c0_1]) (t := 33) ?hr ?_; (case hd => rfl); (case hg => rfl); (case hr => first | (go_simp; done) | (go_simp; rfl)); intro gb365 hg w76 hbox hb; have n0_ := aM (below_step (by repeat (first | (with_reducible first | exact HB.out | apply bA | apply bN | apply bD) | exact HB.out)) hb); have n1_ := aM (hbox); have n2_ := aM ((by rw [hg]; exact (below_size (by repeat (first | (with_reducible first | exact HB.out | apply bA | apply bN | apply bD) | exact HB.out))) : w.heap.size ≤ gb365)); have n3_ := aM ((by rw [hg]; exact (below_size (by repeat (first | (with_reducible first | exact HB.out | apply bA | apply bN | apply bD) | exact HB.out))) : w.heap.size ≤ gb365)); clear HB; have HB := n0_; have BK365 := n1_; have GW365 := n2_; have GE365 := n3_; clear n0_ n1_ n2_ n3_; clear hb hbox hg; have hcz77_0 : w76.cell? ⟨gb365, 0, none⟩ = some (.slice A0_0 l0_0.length c0_0) := (blk_cell BK365.out 0).trans rfl; have hcz77_1 : w76.cell? ⟨gb365, 1, none⟩ = some (.slice A0_1 l0_1.length c0_1) := (blk_cell BK365.out 1).trans rfl; have hfz77_0 := blk_frozen BK365.out 0; have hfz77_1 := blk_frozen BK365.out 1) | ((with_reducible refine gate_callee (f := 56) rfl ?_); refine goesL_ (some 23) rfl rfl Try.func56 (by kernel_rfl) rfl #[.agg #[.slice A0_0 l0_0.length c0_0, .slice A0_1 l0_1.length c0_1], .string a1, .string a2] rfl (by (try simp only [List.map_toArray, List.map_cons, List.map_nil]); first | done | rfl | (simp only [List.length_drop, List.length_take]; rfl)) ?_; (with_reducible refine (spec_boTwo.calls k _ _ l0_0 _ _ l0_1 a1 a2 false _ ?side1 ?side2 ?side3 ?side4 A4.out).mono ?_); (case side1 => repeat (first | exact (Kd.C_below HR0_0.out HB.out) | (with_reducible refine cA ?_ _) | (with_reducible refine cN ?_ _) | (with_reducible refine cD ?_))); (case side2 => exact HC0_0.out); (case side3 => repeat (first | exact (Kd.C_below HR0_1.out HB.out) | (with_reducible refine cA ?_ _) | (with_reducible refine cN ?_ _) | (with_reducible refine cD ?_))); (case side4 => exact HC0_1.out); rintro e w78 ⟨rfl, hb⟩; refine ⟨_, rfl, ?_⟩; have n0_ := aM (blk_below (g := gb365) (o := .cells #[.slice A0_0 l0_0.length c0_0, .slice A0_1 l0_1.length c0_1] 33 (0, 0)) (by (with_reducible repeat (first | refine kN ?_ _ | refine kD ?_ | refine kA ?_ _)); exact BK365.out) hb); have n1_ := aM (below_step (by repeat (first | (with_reducible first | exact HB.out | apply bA | apply bN | apply bD | refine bS ?_ GE365.out) | exact HB.out)) hb); clear BK365; clear HB; have BK365 := n0_; have HB := n1_; clear n0_ n1_; (try clear hb); (try clear hb2); (try clear hk); (try clear hi)))
  go_ret2
  exact ⟨by first | rfl | (simp [errW_none, errW_some] <;> rfl) | (simp [*, errW_none, errW_some] <;> rfl), by repeat (first | (with_reducible first | exact HB.out | apply bA | apply bN | apply bD | refine bS ?_ GE365.out) | exact HB.out)⟩

/-! ### impl_CountSlideWays: function 32 (told by hand) -/
def impl_CountSlideWays.f (k : Nat) (l0_0 : List Int) (l0_1 : List S111) (a1 : ByteArray) (a2 : ByteArray) : Option (Int × Bool) :=
 (impl_Bolts_good.f k l0_0 l0_1 [a1, a2]).bind fun t => if t = true then (if a1.size ≤ maxLen ∧ a2.size ≤ maxLen then ((impl_Bolts_search.f k l0_0 l0_1 a1).bind fun q => if (q.2.2 a2).getD 0 > 1000000000000000 then some (0, false) else some ((q.2.2 a2).getD 0, true)) else none) else some (0, false)
theorem impl_CountSlideWays.mono : ∀ a0 a1 a2 a3 k, LeO (impl_CountSlideWays.f k a0 a1 a2 a3) (impl_CountSlideWays.f (k + 1) a0 a1 a2 a3) := fun _ _ _ _ k =>
 LeO.bind (impl_Bolts_good.mono _ _ _ _) (fun _ => LeO.ite (LeO.ite (LeO.bind (impl_Bolts_search.mono _ _ _ _) (fun _ => LeO.refl _)) (LeO.refl _)) (LeO.refl _))
set_option maxHeartbeats 8000000 in
set_option maxRecDepth 100000 in
theorem impl_CountSlideWays.calls (k : Nat) (A0_0 : Option Addr) (c0_0 : Nat) (l0_0 : List Int) (A0_1 : Option Addr) (c0_1 : Nat) (l0_1 : List (S111)) (a1 : ByteArray) (a2 : ByteArray) (r1 : Int) (r2 : Bool) (w : World) (hr0_0 : Kd.C (Kd.int .i64) w A0_0 l0_0.length l0_0) (hc0_0 : l0_0.length ≤ c0_0) (hr0_1 : Kd.C k111 w A0_1 l0_1.length l0_1) (hc0_1 : l0_1.length ≤ c0_1) (h : impl_CountSlideWays.f k l0_0 l0_1 a1 a2 = some (r1, r2)) :
  Calls Try.prog 32 #[.agg #[.slice A0_0 l0_0.length c0_0, .slice A0_1 l0_1.length c0_1], .string a1, .string a2] w fun e w' => e = .returned (.tuple #[.int .i64 r1, .bool r2]) ∧ Below w.heap.size w w' := by
 have hu1 := Try.underlying33
 have hu2 := Try.underlying80
 have HR0 := aM hr0_0
 have HC0 := aM hc0_0
 have HR1 := aM hr0_1
 have HC1 := aM hc0_1
 clear hr0_0 hc0_0 hr0_1 hc0_1
 unfold impl_CountSlideWays.f at h
 obtain ⟨ys, hys⟩ : ∃ y_ : List ByteArray, y_ = ([a1, a2] : List ByteArray) := ⟨_, rfl⟩
 rw [← hys] at h
 have NY := aM hys
 clear hys
 obtain ⟨t, G_, h⟩ := Option.bind_eq_some_iff.mp h
 have HG := aM G_
 clear G_
 cases t with
 | false =>
  rw [if_neg (by simp)] at h
  simp only [Option.some.injEq, Prod.mk.injEq] at h
  obtain ⟨rfl, rfl⟩ := h
  go_enter Try.func32, Try.ntmps32
  go_wp2_with (first | ((with_reducible refine gate_dst (N := 3) rfl ?_); refine box_event ?hg (N := 3) ?hd (cs := #[.slice A0_0 l0_0.length c0_0, .slice A0_1 l0_1.length c0_1]) (t := 33) ?hr ?_; (case hd => rfl); (case hg => rfl); (case hr => first | (go_simp; done) | (go_simp; rfl)); intro gb hg w6 hbox hb; have HB := aM hb; have BK := aM hbox; clear hb hbox hg; have hz0 : w6.cell? ⟨gb, 0, none⟩ = some (.slice A0_0 l0_0.length c0_0) := (blk_cell BK.out 0).trans rfl; have hz1 : w6.cell? ⟨gb, 1, none⟩ = some (.slice A0_1 l0_1.length c0_1) := (blk_cell BK.out 1).trans rfl) | ((with_reducible refine gate_dst (N := 12) rfl ?_); refine Kd.R_lit Kd.string _ 9 ?hg (N := 12) ?hd (xs := ([a1, a2] : List ByteArray)) (inner := [.string a1, .string a2]) (ok := fun _ => True) (okp := fun _ => True) ?hr ?hp (fun _ hk => hk) trivial (Below.refl _ _) (Nat.le_refl _) (by simp) ?_; (case hd => rfl); (case hg => rfl); (case hr => first | (go_simp; done) | (go_simp; rfl)); (case hp => exact (Reps.one (show Kd.M Kd.string _ _ _ a1 [.string a1] from rfl) (Reps.one (show Kd.M Kd.string _ _ _ a2 [.string a2] from rfl) (Reps.none _ _)))); intro v8 w8 ho hb hg_ hnew_; clear hg_ hnew_; (first | rw [← NY.out] at ho | (simp only [Int.reduceToNat] at ho; rw [← NY.out] at ho)); have HO := aM (Kd.R_lower ho (below_size HB.out)); have n1_ := aM (blk_below (g := gb) (o := .cells #[.slice A0_0 l0_0.length c0_0, .slice A0_1 l0_1.length c0_1] 33 (0, 0)) BK.out hb); have n2_ := aM (below_step HB.out hb); clear BK HB hb ho; have BK := n1_; have HB := n2_; clear n1_ n2_; obtain ⟨Ao, co, eo⟩ := Kd.R_slice HO.out; subst eo) | ((with_reducible refine gate_callee (f := 50) rfl ?_); refine goesL_ (some 13) rfl rfl Try.func50 (by kernel_rfl) rfl #[.agg #[.slice A0_0 l0_0.length c0_0, .slice A0_1 l0_1.length c0_1], .slice Ao ys.length co] rfl (by (try simp only [List.map_toArray, List.map_cons, List.map_nil]); first | done | rfl) ?_; (with_reducible refine (impl_Bolts_good.calls k _ _ l0_0 _ _ l0_1 _ _ ys false _ ?side1 ?side2 ?side3 ?side4 ?side5 ?side6 HG.out).mono ?_); (case side1 => exact Kd.C_below HR0.out HB.out); (case side2 => exact HC0.out); (case side3 => exact Kd.C_below HR1.out HB.out); (case side4 => exact HC1.out); (case side5 => exact (Kd.R_reads' HO.out).2.2); (case side6 => exact (Kd.R_reads' HO.out).2.1); rintro e w11 ⟨rfl, hb⟩; refine ⟨_, rfl, ?_⟩; have n1_ := aM (blk_below (g := gb) (o := .cells #[.slice A0_0 l0_0.length c0_0, .slice A0_1 l0_1.length c0_1] 33 (0, 0)) BK.out hb); have n2_ := aM (below_step HB.out hb); clear BK HB hb HO; have BK := n1_; have HB := n2_; clear n1_ n2_; have hy0 : w11.cell? ⟨gb, 0, none⟩ = some (.slice A0_0 l0_0.length c0_0) := (blk_cell BK.out 0).trans rfl; have hy1 : w11.cell? ⟨gb, 1, none⟩ = some (.slice A0_1 l0_1.length c0_1) := (blk_cell BK.out 1).trans rfl))
  go_ret2
  exact ⟨rfl, HB.out⟩
 | true =>
  rw [if_pos rfl] at h
  by_cases s1 : a1.size ≤ maxLen ∧ a2.size ≤ maxLen
  ·rw [if_pos s1] at h
   have HS := aM (show (a1.size ≤ maxLen ∧ a2.size ≤ maxLen) ∧ True from ⟨s1, trivial⟩)
   clear s1
   obtain ⟨q, Q_, h⟩ := Option.bind_eq_some_iff.mp h
   have HQ := aM Q_
   clear Q_
   obtain ⟨n, hn⟩ : ∃ n : Int, (q.2.2 a2).getD 0 = n := ⟨_, rfl⟩
   rw [hn] at h
   have N1 := aM hn
   clear hn
   by_cases c1 : n > 1000000000000000
   ·rw [if_pos c1] at h
    have c1b : decide (n > 1000000000000000) = true := decide_eq_true c1
    clear c1
    simp only [Option.some.injEq, Prod.mk.injEq] at h
    obtain ⟨rfl, rfl⟩ := h
    go_enter Try.func32, Try.ntmps32
    go_wp2_with (first | ((with_reducible refine gate_dst (N := 3) rfl ?_); refine box_event ?hg (N := 3) ?hd (cs := #[.slice A0_0 l0_0.length c0_0, .slice A0_1 l0_1.length c0_1]) (t := 33) ?hr ?_; (case hd => rfl); (case hg => rfl); (case hr => first | (go_simp; done) | (go_simp; rfl)); intro gb hg w6 hbox hb; have HB := aM hb; have BK := aM hbox; clear hb hbox hg; have hz0 : w6.cell? ⟨gb, 0, none⟩ = some (.slice A0_0 l0_0.length c0_0) := (blk_cell BK.out 0).trans rfl; have hz1 : w6.cell? ⟨gb, 1, none⟩ = some (.slice A0_1 l0_1.length c0_1) := (blk_cell BK.out 1).trans rfl) | ((with_reducible refine gate_dst (N := 12) rfl ?_); refine Kd.R_lit Kd.string _ 9 ?hg (N := 12) ?hd (xs := ([a1, a2] : List ByteArray)) (inner := [.string a1, .string a2]) (ok := fun _ => True) (okp := fun _ => True) ?hr ?hp (fun _ hk => hk) trivial (Below.refl _ _) (Nat.le_refl _) (by simp) ?_; (case hd => rfl); (case hg => rfl); (case hr => first | (go_simp; done) | (go_simp; rfl)); (case hp => exact (Reps.one (show Kd.M Kd.string _ _ _ a1 [.string a1] from rfl) (Reps.one (show Kd.M Kd.string _ _ _ a2 [.string a2] from rfl) (Reps.none _ _)))); intro v8 w8 ho hb hg_ hnew_; clear hg_ hnew_; (first | rw [← NY.out] at ho | (simp only [Int.reduceToNat] at ho; rw [← NY.out] at ho)); have HO := aM (Kd.R_lower ho (below_size HB.out)); have n1_ := aM (blk_below (g := gb) (o := .cells #[.slice A0_0 l0_0.length c0_0, .slice A0_1 l0_1.length c0_1] 33 (0, 0)) BK.out hb); have n2_ := aM (below_step HB.out hb); clear BK HB hb ho; have BK := n1_; have HB := n2_; clear n1_ n2_; obtain ⟨Ao, co, eo⟩ := Kd.R_slice HO.out; subst eo) | ((with_reducible refine gate_callee (f := 50) rfl ?_); refine goesL_ (some 13) rfl rfl Try.func50 (by kernel_rfl) rfl #[.agg #[.slice A0_0 l0_0.length c0_0, .slice A0_1 l0_1.length c0_1], .slice Ao ys.length co] rfl (by (try simp only [List.map_toArray, List.map_cons, List.map_nil]); first | done | rfl) ?_; (with_reducible refine (impl_Bolts_good.calls k _ _ l0_0 _ _ l0_1 _ _ ys true _ ?side1 ?side2 ?side3 ?side4 ?side5 ?side6 HG.out).mono ?_); (case side1 => exact Kd.C_below HR0.out HB.out); (case side2 => exact HC0.out); (case side3 => exact Kd.C_below HR1.out HB.out); (case side4 => exact HC1.out); (case side5 => exact (Kd.R_reads' HO.out).2.2); (case side6 => exact (Kd.R_reads' HO.out).2.1); rintro e w11 ⟨rfl, hb⟩; refine ⟨_, rfl, ?_⟩; have n1_ := aM (blk_below (g := gb) (o := .cells #[.slice A0_0 l0_0.length c0_0, .slice A0_1 l0_1.length c0_1] 33 (0, 0)) BK.out hb); have n2_ := aM (below_step HB.out hb); clear BK HB hb HO; have BK := n1_; have HB := n2_; clear n1_ n2_; have hy0 : w11.cell? ⟨gb, 0, none⟩ = some (.slice A0_0 l0_0.length c0_0) := (blk_cell BK.out 0).trans rfl; have hy1 : w11.cell? ⟨gb, 1, none⟩ = some (.slice A0_1 l0_1.length c0_1) := (blk_cell BK.out 1).trans rfl) | ((with_reducible refine gate_callee (f := 55) rfl ?_); refine goesL_ (some 17) rfl rfl Try.func55 (by kernel_rfl) rfl #[.agg #[.slice A0_0 l0_0.length c0_0, .slice A0_1 l0_1.length c0_1], .string a1] rfl (by (try simp only [List.map_toArray, List.map_cons, List.map_nil]); first | done | rfl) ?_; (with_reducible refine (impl_Bolts_search.calls k _ _ l0_0 _ _ l0_1 a1 q _ ?side1 ?side2 ?side3 ?side4 ?side5 HQ.out).mono ?_); (case side1 => exact Kd.C_below HR0.out HB.out); (case side2 => exact HC0.out); (case side3 => exact Kd.C_below HR1.out HB.out); (case side4 => exact HC1.out); (case side5 => exact HS.out.1.1); rintro e w13 ⟨gr, rfl, b1, b2, v, c, hS⟩; refine ⟨_, rfl, ?_⟩; obtain ⟨Av, cv, ev⟩ := Kd.R_slice hS.lst; subst ev; have SS := aM (hS.rebase HB.out); have BKs := aM (blk_below (g := gb) (o := .cells #[.slice A0_0 l0_0.length c0_0, .slice A0_1 l0_1.length c0_1] 33 (0, 0)) BK.out hS.bel); clear hS; have hx0 : w13.cell? ⟨gr, 0, none⟩ = some (.slice Av q.1.length cv) := (blk_cell SS.out.blk 0).trans rfl; have hx1 : w13.cell? ⟨gr, 1, none⟩ = some (.map (some b1)) := (blk_cell SS.out.blk 1).trans rfl; have hx2 : w13.cell? ⟨gr, 2, none⟩ = some (.map (some b2)) := (blk_cell SS.out.blk 2).trans rfl) | (at_lookup; refine MapS.look_v SS.out.way N1.out HS.out.1.2 rfl _ _ rfl rfl rfl ?_))
    go_ret2
    exact ⟨rfl, SS.out.bel⟩
   ·rw [if_neg c1] at h
    have c1b : decide (n > 1000000000000000) = false := decide_eq_false c1
    clear c1
    simp only [Option.some.injEq, Prod.mk.injEq] at h
    obtain ⟨rfl, rfl⟩ := h
    go_enter Try.func32, Try.ntmps32
    go_wp2_with (first | ((with_reducible refine gate_dst (N := 3) rfl ?_); refine box_event ?hg (N := 3) ?hd (cs := #[.slice A0_0 l0_0.length c0_0, .slice A0_1 l0_1.length c0_1]) (t := 33) ?hr ?_; (case hd => rfl); (case hg => rfl); (case hr => first | (go_simp; done) | (go_simp; rfl)); intro gb hg w6 hbox hb; have HB := aM hb; have BK := aM hbox; clear hb hbox hg; have hz0 : w6.cell? ⟨gb, 0, none⟩ = some (.slice A0_0 l0_0.length c0_0) := (blk_cell BK.out 0).trans rfl; have hz1 : w6.cell? ⟨gb, 1, none⟩ = some (.slice A0_1 l0_1.length c0_1) := (blk_cell BK.out 1).trans rfl) | ((with_reducible refine gate_dst (N := 12) rfl ?_); refine Kd.R_lit Kd.string _ 9 ?hg (N := 12) ?hd (xs := ([a1, a2] : List ByteArray)) (inner := [.string a1, .string a2]) (ok := fun _ => True) (okp := fun _ => True) ?hr ?hp (fun _ hk => hk) trivial (Below.refl _ _) (Nat.le_refl _) (by simp) ?_; (case hd => rfl); (case hg => rfl); (case hr => first | (go_simp; done) | (go_simp; rfl)); (case hp => exact (Reps.one (show Kd.M Kd.string _ _ _ a1 [.string a1] from rfl) (Reps.one (show Kd.M Kd.string _ _ _ a2 [.string a2] from rfl) (Reps.none _ _)))); intro v8 w8 ho hb hg_ hnew_; clear hg_ hnew_; (first | rw [← NY.out] at ho | (simp only [Int.reduceToNat] at ho; rw [← NY.out] at ho)); have HO := aM (Kd.R_lower ho (below_size HB.out)); have n1_ := aM (blk_below (g := gb) (o := .cells #[.slice A0_0 l0_0.length c0_0, .slice A0_1 l0_1.length c0_1] 33 (0, 0)) BK.out hb); have n2_ := aM (below_step HB.out hb); clear BK HB hb ho; have BK := n1_; have HB := n2_; clear n1_ n2_; obtain ⟨Ao, co, eo⟩ := Kd.R_slice HO.out; subst eo) | ((with_reducible refine gate_callee (f := 50) rfl ?_); refine goesL_ (some 13) rfl rfl Try.func50 (by kernel_rfl) rfl #[.agg #[.slice A0_0 l0_0.length c0_0, .slice A0_1 l0_1.length c0_1], .slice Ao ys.length co] rfl (by (try simp only [List.map_toArray, List.map_cons, List.map_nil]); first | done | rfl) ?_; (with_reducible refine (impl_Bolts_good.calls k _ _ l0_0 _ _ l0_1 _ _ ys true _ ?side1 ?side2 ?side3 ?side4 ?side5 ?side6 HG.out).mono ?_); (case side1 => exact Kd.C_below HR0.out HB.out); (case side2 => exact HC0.out); (case side3 => exact Kd.C_below HR1.out HB.out); (case side4 => exact HC1.out); (case side5 => exact (Kd.R_reads' HO.out).2.2); (case side6 => exact (Kd.R_reads' HO.out).2.1); rintro e w11 ⟨rfl, hb⟩; refine ⟨_, rfl, ?_⟩; have n1_ := aM (blk_below (g := gb) (o := .cells #[.slice A0_0 l0_0.length c0_0, .slice A0_1 l0_1.length c0_1] 33 (0, 0)) BK.out hb); have n2_ := aM (below_step HB.out hb); clear BK HB hb HO; have BK := n1_; have HB := n2_; clear n1_ n2_; have hy0 : w11.cell? ⟨gb, 0, none⟩ = some (.slice A0_0 l0_0.length c0_0) := (blk_cell BK.out 0).trans rfl; have hy1 : w11.cell? ⟨gb, 1, none⟩ = some (.slice A0_1 l0_1.length c0_1) := (blk_cell BK.out 1).trans rfl) | ((with_reducible refine gate_callee (f := 55) rfl ?_); refine goesL_ (some 17) rfl rfl Try.func55 (by kernel_rfl) rfl #[.agg #[.slice A0_0 l0_0.length c0_0, .slice A0_1 l0_1.length c0_1], .string a1] rfl (by (try simp only [List.map_toArray, List.map_cons, List.map_nil]); first | done | rfl) ?_; (with_reducible refine (impl_Bolts_search.calls k _ _ l0_0 _ _ l0_1 a1 q _ ?side1 ?side2 ?side3 ?side4 ?side5 HQ.out).mono ?_); (case side1 => exact Kd.C_below HR0.out HB.out); (case side2 => exact HC0.out); (case side3 => exact Kd.C_below HR1.out HB.out); (case side4 => exact HC1.out); (case side5 => exact HS.out.1.1); rintro e w13 ⟨gr, rfl, b1, b2, v, c, hS⟩; refine ⟨_, rfl, ?_⟩; obtain ⟨Av, cv, ev⟩ := Kd.R_slice hS.lst; subst ev; have SS := aM (hS.rebase HB.out); have BKs := aM (blk_below (g := gb) (o := .cells #[.slice A0_0 l0_0.length c0_0, .slice A0_1 l0_1.length c0_1] 33 (0, 0)) BK.out hS.bel); clear hS; have hx0 : w13.cell? ⟨gr, 0, none⟩ = some (.slice Av q.1.length cv) := (blk_cell SS.out.blk 0).trans rfl; have hx1 : w13.cell? ⟨gr, 1, none⟩ = some (.map (some b1)) := (blk_cell SS.out.blk 1).trans rfl; have hx2 : w13.cell? ⟨gr, 2, none⟩ = some (.map (some b2)) := (blk_cell SS.out.blk 2).trans rfl) | (at_lookup; refine MapS.look_v SS.out.way N1.out HS.out.1.2 rfl _ _ rfl rfl rfl ?_))
    go_ret2
    exact ⟨rfl, SS.out.bel⟩
  ·rw [if_neg s1] at h
   cases h

/-! ### laws_FnExactCountSlideWays: function 8 -/
def laws_FnExactCountSlideWays.j0 : Nat → Bool → List Int → List (S113) → List Int → List (S111) → Option (Bool)
 | 0, _, _, _, _, _ => none
 | k + 1, x48, x397000, x397001, x413000, x413001 => if x48 = true then (some false) else ((laws_toBolts.f k x397000 x397001).bind fun bt415 => ((laws_eqBolts.f k x413000 x413001 bt415.1 bt415.2).bind fun t421 => (if t421 = true then (some true) else (some false))))
def laws_FnExactCountSlideWays.f (k : Nat) (l0_0 : List Int) (l0_1 : List (S113)) (a1 : ByteArray) (a2 : ByteArray) : Option (Bool) := if (a1.size : Int) > 1048576 then (some true) else (if (a2.size : Int) > 1048576 then (some true) else ((laws_szBolts.f l0_0 l0_1 1048576).bind fun t397 => (if t397 < 0 then (some true) else ((laws_toBolts.f k l0_0 l0_1).bind fun bt398 => ((spec_CountSlideWays.f k bt398.1 bt398.2 a1 a2).bind fun bt404 => ((laws_toBolts.f k l0_0 l0_1).bind fun bt406 => ((impl_CountSlideWays.f k bt406.1 bt406.2 a1 a2).bind fun bt413 => (if bt413.1 = bt404.1 then (laws_FnExactCountSlideWays.j0 k (bt413.2 != bt404.2) l0_0 l0_1 bt406.1 bt406.2) else (laws_FnExactCountSlideWays.j0 k true l0_0 l0_1 bt406.1 bt406.2)))))))))
theorem laws_FnExactCountSlideWays.mono_l : ∀ k, (∀ y0 y1 y2 y3 y4, LeO (laws_FnExactCountSlideWays.j0 k y0 y1 y2 y3 y4) (laws_FnExactCountSlideWays.j0 (k + 1) y0 y1 y2 y3 y4))
 | 0 => fun _ _ _ _ _ r h => by simp [laws_FnExactCountSlideWays.j0] at h
 | k + 1 => by
  have ih0 := laws_FnExactCountSlideWays.mono_l k
  ·intro y0 y1 y2 y3 y4
   unfold laws_FnExactCountSlideWays.j0
   repeat' first
   | (with_reducible exact ih0 _ _ _ _ _)
   | (with_reducible exact impl_CountSlideWays.mono _ _ _ _ _)
   | (with_reducible exact laws_eqBolts.mono _ _ _ _ _)
   | (with_reducible exact laws_toBolts.mono _ _ _)
   | (with_reducible exact spec_CountSlideWays.mono _ _ _ _ _)
   | (with_reducible exact LeO.refl _)
   | (with_reducible exact LeO.none _)
   | (with_reducible refine LeO.ite ?_ ?_)
   | (with_reducible refine LeO.bind ?_ (fun _ => ?_))
   | exact ih0 _ _ _ _ _
   | exact impl_CountSlideWays.mono _ _ _ _ _
   | exact laws_eqBolts.mono _ _ _ _ _
   | exact laws_toBolts.mono _ _ _
   | exact spec_CountSlideWays.mono _ _ _ _ _
   | exact LeO.none _
   | refine LeO.ite ?_ ?_
   | refine LeO.bind ?_ (fun _ => ?_)
theorem laws_FnExactCountSlideWays.mono : ∀ a0 a1 a2 a3 k, LeO (laws_FnExactCountSlideWays.f k a0 a1 a2 a3) (laws_FnExactCountSlideWays.f (k + 1) a0 a1 a2 a3) := by
 intro a0 a1 a2 a3 k
 have ih0 := laws_FnExactCountSlideWays.mono_l k
 unfold laws_FnExactCountSlideWays.f
 repeat' first
   | (with_reducible exact ih0 _ _ _ _ _)
   | (with_reducible exact impl_CountSlideWays.mono _ _ _ _ _)
   | (with_reducible exact laws_eqBolts.mono _ _ _ _ _)
   | (with_reducible exact laws_toBolts.mono _ _ _)
   | (with_reducible exact spec_CountSlideWays.mono _ _ _ _ _)
   | (with_reducible exact LeO.refl _)
   | (with_reducible exact LeO.none _)
   | (with_reducible refine LeO.ite ?_ ?_)
   | (with_reducible refine LeO.bind ?_ (fun _ => ?_))
   | exact ih0 _ _ _ _ _
   | exact impl_CountSlideWays.mono _ _ _ _ _
   | exact laws_eqBolts.mono _ _ _ _ _
   | exact laws_toBolts.mono _ _ _
   | exact spec_CountSlideWays.mono _ _ _ _ _
   | exact LeO.none _
   | refine LeO.ite ?_ ?_
   | refine LeO.bind ?_ (fun _ => ?_)
set_option maxHeartbeats 8000000 in
set_option maxRecDepth 100000 in
theorem laws_FnExactCountSlideWays.calls (k : Nat) (A0_0 : Option Addr) (c0_0 : Nat) (l0_0 : List Int) (A0_1 : Option Addr) (c0_1 : Nat) (l0_1 : List (S113)) (a1 : ByteArray) (a2 : ByteArray) (r : Bool) (w : World) (hr0_0 : Kd.C (Kd.int .i64) w A0_0 l0_0.length l0_0) (hc0_0 : l0_0.length ≤ c0_0) (hr0_1 : Kd.C k113 w A0_1 l0_1.length l0_1) (hc0_1 : l0_1.length ≤ c0_1) (h : laws_FnExactCountSlideWays.f k l0_0 l0_1 a1 a2 = some r) :
  Calls Try.prog 8 #[.agg #[.slice A0_0 l0_0.length c0_0, .slice A0_1 l0_1.length c0_1], .string a1, .string a2] w fun e w' => e = .returned (.bool r) ∧ Below w.heap.size w w' := by
 have hu25 := Try.underlying25
 have hu33 := Try.underlying33
 have HR0_0 := aM hr0_0
 have HC0_0 := aM hc0_0
 clear hr0_0 hc0_0
 have HR0_1 := aM hr0_1
 have HC0_1 := aM hc0_1
 clear hr0_1 hc0_1
 have HB := aM (Below.refl w.heap.size w)
 have H : (if (a1.size : Int) > 1048576 then (some true) else (if (a2.size : Int) > 1048576 then (some true) else ((laws_szBolts.f l0_0 l0_1 1048576).bind fun t397 => (if t397 < 0 then (some true) else ((laws_toBolts.f k l0_0 l0_1).bind fun bt398 => ((spec_CountSlideWays.f k bt398.1 bt398.2 a1 a2).bind fun bt404 => ((laws_toBolts.f k l0_0 l0_1).bind fun bt406 => ((impl_CountSlideWays.f k bt406.1 bt406.2 a1 a2).bind fun bt413 => (if bt413.1 = bt404.1 then (laws_FnExactCountSlideWays.j0 k (bt413.2 != bt404.2) l0_0 l0_1 bt406.1 bt406.2) else (laws_FnExactCountSlideWays.j0 k true l0_0 l0_1 bt406.1 bt406.2)))))))))) = some r := h
 clear h
 by_cases c4 : (a1.size : Int) > 1048576
 ·rw [if_pos c4] at H
  have c4b0 : decide (1048576 < (a1.size : Int)) = true := decide_eq_true c4
  have c4b1 : decide (1048576 < a1.size) = true := decide_eq_true (by omega)
  clear c4
  obtain rfl := Option.some.inj H
  go_enter Try.func8, Try.ntmps8
  go_wp2_with (first | ((with_reducible refine gate_dst (N := 3) rfl ?_); refine box_event ?hg (N := 3) ?hd (cs := #[.slice A0_0 l0_0.length c0_0, .slice A0_1 l0_1.length c0_1]) (t := 25) ?hr ?_; (case hd => rfl); (case hg => rfl); (case hr => first | (go_simp; done) | (go_simp; rfl)); intro gb396 hg w5 hbox hb; have n0_ := aM (below_step (by repeat (first | (with_reducible first | exact HB.out | apply bA | apply bN | apply bD) | exact HB.out)) hb); have n1_ := aM (hbox); have n2_ := aM ((by rw [hg]; exact (below_size (by repeat (first | (with_reducible first | exact HB.out | apply bA | apply bN | apply bD) | exact HB.out))) : w.heap.size ≤ gb396)); have n3_ := aM ((by rw [hg]; exact (below_size (by repeat (first | (with_reducible first | exact HB.out | apply bA | apply bN | apply bD) | exact HB.out))) : w.heap.size ≤ gb396)); clear HB; have HB := n0_; have BK396 := n1_; have GW396 := n2_; have GE396 := n3_; clear n0_ n1_ n2_ n3_; clear hb hbox hg))
  go_ret
  exact ⟨by first | rfl | (simp [errW_none, errW_some] <;> rfl) | (simp [*, errW_none, errW_some] <;> rfl), by repeat (first | (with_reducible first | exact HB.out | apply bA | apply bN | apply bD | refine bS ?_ GE396.out) | exact HB.out)⟩
 ·rw [if_neg c4] at H
  have c4b0 : decide (1048576 < (a1.size : Int)) = false := decide_eq_false c4
  have c4b1 : decide (1048576 < a1.size) = false := decide_eq_false (by omega)
  clear c4
  by_cases c6 : (a2.size : Int) > 1048576
  ·rw [if_pos c6] at H
   have c6b0 : decide (1048576 < (a2.size : Int)) = true := decide_eq_true c6
   have c6b1 : decide (1048576 < a2.size) = true := decide_eq_true (by omega)
   clear c6
   obtain rfl := Option.some.inj H
   go_enter Try.func8, Try.ntmps8
   go_wp2_with (first | ((with_reducible refine gate_dst (N := 3) rfl ?_); refine box_event ?hg (N := 3) ?hd (cs := #[.slice A0_0 l0_0.length c0_0, .slice A0_1 l0_1.length c0_1]) (t := 25) ?hr ?_; (case hd => rfl); (case hg => rfl); (case hr => first | (go_simp; done) | (go_simp; rfl)); intro gb396 hg w7 hbox hb; have n0_ := aM (below_step (by repeat (first | (with_reducible first | exact HB.out | apply bA | apply bN | apply bD) | exact HB.out)) hb); have n1_ := aM (hbox); have n2_ := aM ((by rw [hg]; exact (below_size (by repeat (first | (with_reducible first | exact HB.out | apply bA | apply bN | apply bD) | exact HB.out))) : w.heap.size ≤ gb396)); have n3_ := aM ((by rw [hg]; exact (below_size (by repeat (first | (with_reducible first | exact HB.out | apply bA | apply bN | apply bD) | exact HB.out))) : w.heap.size ≤ gb396)); clear HB; have HB := n0_; have BK396 := n1_; have GW396 := n2_; have GE396 := n3_; clear n0_ n1_ n2_ n3_; clear hb hbox hg))
   go_ret
   exact ⟨by first | rfl | (simp [errW_none, errW_some] <;> rfl) | (simp [*, errW_none, errW_some] <;> rfl), by repeat (first | (with_reducible first | exact HB.out | apply bA | apply bN | apply bD | refine bS ?_ GE396.out) | exact HB.out)⟩
  ·rw [if_neg c6] at H
   have c6b0 : decide (1048576 < (a2.size : Int)) = false := decide_eq_false c6
   have c6b1 : decide (1048576 < a2.size) = false := decide_eq_false (by omega)
   clear c6
   replace H := Option.bind_eq_some_iff.mp H
   obtain ⟨t397, A80, H⟩ := H
   replace H : (if t397 < 0 then (some true) else ((laws_toBolts.f k l0_0 l0_1).bind fun bt398 => ((spec_CountSlideWays.f k bt398.1 bt398.2 a1 a2).bind fun bt404 => ((laws_toBolts.f k l0_0 l0_1).bind fun bt406 => ((impl_CountSlideWays.f k bt406.1 bt406.2 a1 a2).bind fun bt413 => (if bt413.1 = bt404.1 then (laws_FnExactCountSlideWays.j0 k (bt413.2 != bt404.2) l0_0 l0_1 bt406.1 bt406.2) else (laws_FnExactCountSlideWays.j0 k true l0_0 l0_1 bt406.1 bt406.2))))))) = some r := H
   have A8 := aM A80
   clear A80
   by_cases c9 : t397 < 0
   ·rw [if_pos c9] at H
    have c9b0 : decide (t397 < 0) = true := decide_eq_true c9
    clear c9
    obtain rfl := Option.some.inj H
    go_enter Try.func8, Try.ntmps8
    go_wp2_with (first | ((with_reducible refine gate_dst (N := 3) rfl ?_); refine box_event ?hg (N := 3) ?hd (cs := #[.slice A0_0 l0_0.length c0_0, .slice A0_1 l0_1.length c0_1]) (t := 25) ?hr ?_; (case hd => rfl); (case hg => rfl); (case hr => first | (go_simp; done) | (go_simp; rfl)); intro gb396 hg w10 hbox hb; have n0_ := aM (below_step (by repeat (first | (with_reducible first | exact HB.out | apply bA | apply bN | apply bD) | exact HB.out)) hb); have n1_ := aM (hbox); have n2_ := aM ((by rw [hg]; exact (below_size (by repeat (first | (with_reducible first | exact HB.out | apply bA | apply bN | apply bD) | exact HB.out))) : w.heap.size ≤ gb396)); have n3_ := aM ((by rw [hg]; exact (below_size (by repeat (first | (with_reducible first | exact HB.out | apply bA | apply bN | apply bD) | exact HB.out))) : w.heap.size ≤ gb396)); clear HB; have HB := n0_; have BK396 := n1_; have GW396 := n2_; have GE396 := n3_; clear n0_ n1_ n2_ n3_; clear hb hbox hg; have hcz11_0 : w10.cell? ⟨gb396, 0, none⟩ = some (.slice A0_0 l0_0.length c0_0) := (blk_cell BK396.out 0).trans rfl; have hcz11_1 : w10.cell? ⟨gb396, 1, none⟩ = some (.slice A0_1 l0_1.length c0_1) := (blk_cell BK396.out 1).trans rfl; have hfz11_0 := blk_frozen BK396.out 0; have hfz11_1 := blk_frozen BK396.out 1) | ((with_reducible refine gate_callee (f := 13) rfl ?_); refine goesL_ (some 21) rfl rfl Try.func13 (by kernel_rfl) rfl #[.agg #[.slice A0_0 l0_0.length c0_0, .slice A0_1 l0_1.length c0_1], .int .i64 1048576] rfl (by (try simp only [List.map_toArray, List.map_cons, List.map_nil]); first | done | rfl | (simp only [List.length_drop, List.length_take]; rfl)) ?_; (with_reducible refine (laws_szBolts.calls _ _ l0_0 _ _ l0_1 1048576 t397 _ ?side1 ?side2 ?side3 ?side4 A8.out).mono ?_); (case side1 => repeat (first | exact (Kd.C_below HR0_0.out HB.out) | (with_reducible refine cA ?_ _) | (with_reducible refine cN ?_ _) | (with_reducible refine cD ?_))); (case side2 => exact HC0_0.out); (case side3 => repeat (first | exact (Kd.C_below HR0_1.out HB.out) | (with_reducible refine cA ?_ _) | (with_reducible refine cN ?_ _) | (with_reducible refine cD ?_))); (case side4 => exact HC0_1.out); rintro e w12 ⟨rfl, hb⟩; refine ⟨_, rfl, ?_⟩; have n0_ := aM (blk_below (g := gb396) (o := .cells #[.slice A0_0 l0_0.length c0_0, .slice A0_1 l0_1.length c0_1] 25 (0, 0)) (by (with_reducible repeat (first | refine kN ?_ _ | refine kD ?_ | refine kA ?_ _)); exact BK396.out) hb); have n1_ := aM (below_step (by repeat (first | (with_reducible first | exact HB.out | apply bA | apply bN | apply bD | refine bS ?_ GE396.out) | exact HB.out)) hb); clear BK396; clear HB; have BK396 := n0_; have HB := n1_; clear n0_ n1_; (try clear hb); (try clear hb2); (try clear hk); (try clear hi)))
    go_ret
    exact ⟨by first | rfl | (simp [errW_none, errW_some] <;> rfl) | (simp [*, errW_none, errW_some] <;> rfl), by repeat (first | (with_reducible first | exact HB.out | apply bA | apply bN | apply bD | refine bS ?_ GE396.out) | exact HB.out)⟩
   ·rw [if_neg c9] at H
    have c9b0 : decide (t397 < 0) = false := decide_eq_false c9
    clear c9
    replace H := Option.bind_eq_some_iff.mp H
    obtain ⟨⟨t398, t401⟩, A130, H⟩ := H
    replace H : ((spec_CountSlideWays.f k t398 t401 a1 a2).bind fun bt404 => ((laws_toBolts.f k l0_0 l0_1).bind fun bt406 => ((impl_CountSlideWays.f k bt406.1 bt406.2 a1 a2).bind fun bt413 => (if bt413.1 = bt404.1 then (laws_FnExactCountSlideWays.j0 k (bt413.2 != bt404.2) l0_0 l0_1 bt406.1 bt406.2) else (laws_FnExactCountSlideWays.j0 k true l0_0 l0_1 bt406.1 bt406.2))))) = some r := H
    have A13 := aM A130
    clear A130
    replace H := Option.bind_eq_some_iff.mp H
    obtain ⟨⟨t404, t405⟩, A140, H⟩ := H
    replace H : ((laws_toBolts.f k l0_0 l0_1).bind fun bt406 => ((impl_CountSlideWays.f k bt406.1 bt406.2 a1 a2).bind fun bt413 => (if bt413.1 = t404 then (laws_FnExactCountSlideWays.j0 k (bt413.2 != t405) l0_0 l0_1 bt406.1 bt406.2) else (laws_FnExactCountSlideWays.j0 k true l0_0 l0_1 bt406.1 bt406.2)))) = some r := H
    have A14 := aM A140
    clear A140
    replace H := Option.bind_eq_some_iff.mp H
    obtain ⟨⟨t406, t409⟩, A150, H⟩ := H
    replace H : ((impl_CountSlideWays.f k t406 t409 a1 a2).bind fun bt413 => (if bt413.1 = t404 then (laws_FnExactCountSlideWays.j0 k (bt413.2 != t405) l0_0 l0_1 t406 t409) else (laws_FnExactCountSlideWays.j0 k true l0_0 l0_1 t406 t409))) = some r := H
    have A15 := aM A150
    clear A150
    replace H := Option.bind_eq_some_iff.mp H
    obtain ⟨⟨t413, t414⟩, A160, H⟩ := H
    replace H : (if t413 = t404 then (laws_FnExactCountSlideWays.j0 k (t414 != t405) l0_0 l0_1 t406 t409) else (laws_FnExactCountSlideWays.j0 k true l0_0 l0_1 t406 t409)) = some r := H
    have A16 := aM A160
    clear A160
    have HC17 := aM H
    clear H
    go_enter Try.func8, Try.ntmps8
    go_upto_region 12 with (first | ((with_reducible refine gate_dst (N := 3) rfl ?_); refine box_event ?hg (N := 3) ?hd (cs := #[.slice A0_0 l0_0.length c0_0, .slice A0_1 l0_1.length c0_1]) (t := 25) ?hr ?_; (case hd => rfl); (case hg => rfl); (case hr => first | (go_simp; done) | (go_simp; rfl)); intro gb396 hg w18 hbox hb; have n0_ := aM (below_step (by repeat (first | (with_reducible first | exact HB.out | apply bA | apply bN | apply bD) | exact HB.out)) hb); have n1_ := aM (hbox); have n2_ := aM ((by rw [hg]; exact (below_size (by repeat (first | (with_reducible first | exact HB.out | apply bA | apply bN | apply bD) | exact HB.out))) : w.heap.size ≤ gb396)); have n3_ := aM ((by rw [hg]; exact (below_size (by repeat (first | (with_reducible first | exact HB.out | apply bA | apply bN | apply bD) | exact HB.out))) : w.heap.size ≤ gb396)); clear HB; have HB := n0_; have BK396 := n1_; have GW396 := n2_; have GE396 := n3_; clear n0_ n1_ n2_ n3_; clear hb hbox hg; have hcz19_0 : w18.cell? ⟨gb396, 0, none⟩ = some (.slice A0_0 l0_0.length c0_0) := (blk_cell BK396.out 0).trans rfl; have hcz19_1 : w18.cell? ⟨gb396, 1, none⟩ = some (.slice A0_1 l0_1.length c0_1) := (blk_cell BK396.out 1).trans rfl; have hfz19_0 := blk_frozen BK396.out 0; have hfz19_1 := blk_frozen BK396.out 1) | ((with_reducible refine gate_callee (f := 13) rfl ?_); refine goesL_ (some 21) rfl rfl Try.func13 (by kernel_rfl) rfl #[.agg #[.slice A0_0 l0_0.length c0_0, .slice A0_1 l0_1.length c0_1], .int .i64 1048576] rfl (by (try simp only [List.map_toArray, List.map_cons, List.map_nil]); first | done | rfl | (simp only [List.length_drop, List.length_take]; rfl)) ?_; (with_reducible refine (laws_szBolts.calls _ _ l0_0 _ _ l0_1 1048576 t397 _ ?side1 ?side2 ?side3 ?side4 A8.out).mono ?_); (case side1 => repeat (first | exact (Kd.C_below HR0_0.out HB.out) | (with_reducible refine cA ?_ _) | (with_reducible refine cN ?_ _) | (with_reducible refine cD ?_))); (case side2 => exact HC0_0.out); (case side3 => repeat (first | exact (Kd.C_below HR0_1.out HB.out) | (with_reducible refine cA ?_ _) | (with_reducible refine cN ?_ _) | (with_reducible refine cD ?_))); (case side4 => exact HC0_1.out); rintro e w20 ⟨rfl, hb⟩; refine ⟨_, rfl, ?_⟩; have n0_ := aM (blk_below (g := gb396) (o := .cells #[.slice A0_0 l0_0.length c0_0, .slice A0_1 l0_1.length c0_1] 25 (0, 0)) (by (with_reducible repeat (first | refine kN ?_ _ | refine kD ?_ | refine kA ?_ _)); exact BK396.out) hb); have n1_ := aM (below_step (by repeat (first | (with_reducible first | exact HB.out | apply bA | apply bN | apply bD | refine bS ?_ GE396.out) | exact HB.out)) hb); clear BK396; clear HB; have BK396 := n0_; have HB := n1_; clear n0_ n1_; (try clear hb); (try clear hb2); (try clear hk); (try clear hi); have hcz21_0 : w20.cell? ⟨gb396, 0, none⟩ = some (.slice A0_0 l0_0.length c0_0) := (blk_cell BK396.out 0).trans rfl; have hcz21_1 : w20.cell? ⟨gb396, 1, none⟩ = some (.slice A0_1 l0_1.length c0_1) := (blk_cell BK396.out 1).trans rfl; have hfz21_0 := blk_frozen BK396.out 0; have hfz21_1 := blk_frozen BK396.out 1) | ((with_reducible refine gate_callee (f := 15) rfl ?_); refine goesL_ (some 26) rfl rfl Try.func15 (by kernel_rfl) rfl #[.agg #[.slice A0_0 l0_0.length c0_0, .slice A0_1 l0_1.length c0_1]] rfl (by (try simp only [List.map_toArray, List.map_cons, List.map_nil]); first | done | rfl | (simp only [List.length_drop, List.length_take]; rfl)) ?_; (with_reducible refine (laws_toBolts.calls k _ _ l0_0 _ _ l0_1 t398 t401 _ ?side1 ?side2 ?side3 ?side4 A13.out).mono ?_); (case side1 => repeat (first | exact (Kd.C_below HR0_0.out HB.out) | (with_reducible refine cA ?_ _) | (with_reducible refine cN ?_ _) | (with_reducible refine cD ?_))); (case side2 => exact HC0_0.out); (case side3 => repeat (first | exact (Kd.C_below HR0_1.out HB.out) | (with_reducible refine cA ?_ _) | (with_reducible refine cN ?_ _) | (with_reducible refine cD ?_))); (case side4 => exact HC0_1.out); rintro e w22 ⟨v399, v402, rfl, ho0, ho1, hb⟩; refine ⟨_, rfl, ?_⟩; have n0_ := aM (Kd.R_lower ho0 (below_size (by repeat (first | (with_reducible first | exact HB.out | apply bA | apply bN | apply bD | refine bS ?_ GE396.out) | exact HB.out)))); have n1_ := aM (Kd.R_lower ho1 (below_size (by repeat (first | (with_reducible first | exact HB.out | apply bA | apply bN | apply bD | refine bS ?_ GE396.out) | exact HB.out)))); have n2_ := aM (blk_below (g := gb396) (o := .cells #[.slice A0_0 l0_0.length c0_0, .slice A0_1 l0_1.length c0_1] 25 (0, 0)) (by (with_reducible repeat (first | refine kN ?_ _ | refine kD ?_ | refine kA ?_ _)); exact BK396.out) hb); have n3_ := aM (below_step (by repeat (first | (with_reducible first | exact HB.out | apply bA | apply bN | apply bD | refine bS ?_ GE396.out) | exact HB.out)) hb); clear BK396; clear HB; have HO400 := n0_; have HO403 := n1_; have BK396 := n2_; have HB := n3_; clear n0_ n1_ n2_ n3_; (try clear hb); (try clear hb2); (try clear hk); (try clear hi); (try clear ho0); (try clear ho1); obtain ⟨Ao23, co23, eo23⟩ := Kd.R_slice HO400.out; subst eo23; obtain ⟨Ao24, co24, eo24⟩ := Kd.R_slice HO403.out; subst eo24) | ((with_reducible refine gate_callee (f := 31) rfl ?_); refine goesL_ (some 29) rfl rfl Try.func31 (by kernel_rfl) rfl #[.agg #[.slice Ao23 t398.length co23, .slice Ao24 t401.length co24], .string a1, .string a2] rfl (by (try simp only [List.map_toArray, List.map_cons, List.map_nil]); first | done | rfl | (simp only [List.length_drop, List.length_take]; rfl)) ?_; (with_reducible refine (spec_CountSlideWays.calls k _ _ t398 _ _ t401 a1 a2 t404 t405 _ ?side1 ?side2 ?side3 ?side4 A14.out).mono ?_); (case side1 => repeat (first | exact (Kd.R_reads' HO400.out).2.2 | (with_reducible refine cA ?_ _) | (with_reducible refine cN ?_ _) | (with_reducible refine cD ?_))); (case side2 => exact (Kd.R_reads' HO400.out).2.1); (case side3 => repeat (first | exact (Kd.R_reads' HO403.out).2.2 | (with_reducible refine cA ?_ _) | (with_reducible refine cN ?_ _) | (with_reducible refine cD ?_))); (case side4 => exact (Kd.R_reads' HO403.out).2.1); rintro e w25 ⟨rfl, hb⟩; refine ⟨_, rfl, ?_⟩; have n0_ := aM (Kd.R_below (by (with_reducible repeat (first | apply rA | apply rN | apply rD)); exact HO400.out) hb); have n1_ := aM (Kd.R_below (by (with_reducible repeat (first | apply rA | apply rN | apply rD)); exact HO403.out) hb); have n2_ := aM (blk_below (g := gb396) (o := .cells #[.slice A0_0 l0_0.length c0_0, .slice A0_1 l0_1.length c0_1] 25 (0, 0)) (by (with_reducible repeat (first | refine kN ?_ _ | refine kD ?_ | refine kA ?_ _)); exact BK396.out) hb); have n3_ := aM (below_step (by repeat (first | (with_reducible first | exact HB.out | apply bA | apply bN | apply bD | refine bS ?_ GE396.out) | exact HB.out)) hb); clear HO400; clear HO403; clear BK396; clear HB; have HO400 := n0_; have HO403 := n1_; have BK396 := n2_; have HB := n3_; clear n0_ n1_ n2_ n3_; (try clear hb); (try clear hb2); (try clear hk); (try clear hi); have hcz26_0 : w25.cell? ⟨gb396, 0, none⟩ = some (.slice A0_0 l0_0.length c0_0) := (blk_cell BK396.out 0).trans rfl; have hcz26_1 : w25.cell? ⟨gb396, 1, none⟩ = some (.slice A0_1 l0_1.length c0_1) := (blk_cell BK396.out 1).trans rfl; have hfz26_0 := blk_frozen BK396.out 0; have hfz26_1 := blk_frozen BK396.out 1) | ((with_reducible refine gate_callee (f := 15) rfl ?_); refine goesL_ (some 33) rfl rfl Try.func15 (by kernel_rfl) rfl #[.agg #[.slice A0_0 l0_0.length c0_0, .slice A0_1 l0_1.length c0_1]] rfl (by (try simp only [List.map_toArray, List.map_cons, List.map_nil]); first | done | rfl | (simp only [List.length_drop, List.length_take]; rfl)) ?_; (with_reducible refine (laws_toBolts.calls k _ _ l0_0 _ _ l0_1 t406 t409 _ ?side1 ?side2 ?side3 ?side4 A15.out).mono ?_); (case side1 => repeat (first | exact (Kd.C_below HR0_0.out HB.out) | (with_reducible refine cA ?_ _) | (with_reducible refine cN ?_ _) | (with_reducible refine cD ?_))); (case side2 => exact HC0_0.out); (case side3 => repeat (first | exact (Kd.C_below HR0_1.out HB.out) | (with_reducible refine cA ?_ _) | (with_reducible refine cN ?_ _) | (with_reducible refine cD ?_))); (case side4 => exact HC0_1.out); rintro e w27 ⟨v407, v410, rfl, ho0, ho1, hb⟩; refine ⟨_, rfl, ?_⟩; have n0_ := aM (Kd.R_elder' (by (with_reducible repeat (first | apply rA | apply rN | apply rD)); exact HO400.out) (Kd.R_base ho0) hb); have n1_ := aM (Kd.R_elder' (by (with_reducible repeat (first | apply rA | apply rN | apply rD)); exact HO403.out) (Kd.R_base ho1) hb); have n2_ := aM (Kd.R_lower (Kd.R_new' ho0 (Kd.R_lt (by (with_reducible repeat (first | apply rA | apply rN | apply rD)); exact HO400.out))) (below_size (by repeat (first | (with_reducible first | exact HB.out | apply bA | apply bN | apply bD | refine bS ?_ GE396.out) | exact HB.out)))); have n3_ := aM (Kd.R_lower (Kd.R_new' ho1 (Kd.R_lt (by (with_reducible repeat (first | apply rA | apply rN | apply rD)); exact HO403.out))) (below_size (by repeat (first | (with_reducible first | exact HB.out | apply bA | apply bN | apply bD | refine bS ?_ GE396.out) | exact HB.out)))); have n4_ := aM (blk_below (g := gb396) (o := .cells #[.slice A0_0 l0_0.length c0_0, .slice A0_1 l0_1.length c0_1] 25 (0, 0)) (by (with_reducible repeat (first | refine kN ?_ _ | refine kD ?_ | refine kA ?_ _)); exact BK396.out) hb); have n5_ := aM (below_step (by repeat (first | (with_reducible first | exact HB.out | apply bA | apply bN | apply bD | refine bS ?_ GE396.out) | exact HB.out)) hb); clear HO400; clear HO403; clear BK396; clear HB; have HO400 := n0_; have HO403 := n1_; have HO408 := n2_; have HO411 := n3_; have BK396 := n4_; have HB := n5_; clear n0_ n1_ n2_ n3_ n4_ n5_; (try clear hb); (try clear hb2); (try clear hk); (try clear hi); (try clear ho0); (try clear ho1)) | ((with_reducible refine gate_dst (N := 10) rfl ?_); refine box_event ?hg (N := 10) ?hd (cs := #[.slice none 0 0, .slice none 0 0]) (t := 33) ?hr ?_; (case hd => rfl); (case hg => rfl); (case hr => first | (go_simp; done) | (go_simp; rfl)); intro gb412 hg w28 hbox hb; have n0_ := aM (Kd.R_below (by (with_reducible repeat (first | apply rA | apply rN | apply rD)); exact HO400.out) hb); have n1_ := aM (Kd.R_below (by (with_reducible repeat (first | apply rA | apply rN | apply rD)); exact HO403.out) hb); have n2_ := aM (Kd.R_below (by (with_reducible repeat (first | apply rA | apply rN | apply rD)); exact HO408.out) hb); have n3_ := aM (Kd.R_below (by (with_reducible repeat (first | apply rA | apply rN | apply rD)); exact HO411.out) hb); have n4_ := aM (blk_below (g := gb396) (o := .cells #[.slice A0_0 l0_0.length c0_0, .slice A0_1 l0_1.length c0_1] 25 (0, 0)) (by (with_reducible repeat (first | refine kN ?_ _ | refine kD ?_ | refine kA ?_ _)); exact BK396.out) hb); have n5_ := aM (below_step (by repeat (first | (with_reducible first | exact HB.out | apply bA | apply bN | apply bD | refine bS ?_ GE396.out) | exact HB.out)) hb); have n6_ := aM (hbox); have n7_ := aM ((by rw [hg]; exact (below_size (by repeat (first | (with_reducible first | exact HB.out | apply bA | apply bN | apply bD | refine bS ?_ GE396.out) | exact HB.out))) : w.heap.size ≤ gb412)); have n8_ := aM ((by rw [hg]; exact (below_size (by repeat (first | (with_reducible first | exact HB.out | apply bA | apply bN | apply bD | refine bS ?_ GE396.out) | exact HB.out))) : w.heap.size ≤ gb412)); have n9_ := aM ((by rw [hg]; exact Nat.ne_of_lt (blk_lt (g := gb396) (o := .cells #[.slice A0_0 l0_0.length c0_0, .slice A0_1 l0_1.length c0_1] 25 (0, 0)) (by (with_reducible repeat (first | refine kN ?_ _ | refine kD ?_ | refine kA ?_ _)); exact BK396.out)) : gb396 ≠ gb412)); have n10_ := aM ((by rw [hg]; exact Nat.ne_of_gt (blk_lt (g := gb396) (o := .cells #[.slice A0_0 l0_0.length c0_0, .slice A0_1 l0_1.length c0_1] 25 (0, 0)) (by (with_reducible repeat (first | refine kN ?_ _ | refine kD ?_ | refine kA ?_ _)); exact BK396.out)) : gb412 ≠ gb396)); clear HO400; clear HO403; clear HO408; clear HO411; clear BK396; clear HB; have HO400 := n0_; have HO403 := n1_; have HO408 := n2_; have HO411 := n3_; have BK396 := n4_; have HB := n5_; have BK412 := n6_; have GW412 := n7_; have GE412 := n8_; have NB396_412 := n9_; have NB412_396 := n10_; clear n0_ n1_ n2_ n3_ n4_ n5_ n6_ n7_ n8_ n9_ n10_; clear hb hbox hg; obtain ⟨Ao29, co29, eo29⟩ := Kd.R_slice HO408.out; subst eo29; have hnb30 := NB412_396.out; have hnc30 := NB396_412.out; have hcz31_0 : w28.cell? ⟨gb412, 0, none⟩ = some (.slice none 0 0) := (blk_cell BK412.out 0).trans rfl; have hcz31_1 : w28.cell? ⟨gb412, 1, none⟩ = some (.slice none 0 0) := (blk_cell BK412.out 1).trans rfl; have hfz31_0 := blk_frozen BK412.out 0; have hfz31_1 := blk_frozen BK412.out 1; obtain ⟨Ao32, co32, eo32⟩ := Kd.R_slice HO411.out; subst eo32) | ((with_reducible refine gate_callee (f := 32) rfl ?_); refine goesL_ (some 38) rfl rfl Try.func32 (by kernel_rfl) rfl #[.agg #[.slice Ao29 t406.length co29, .slice Ao32 t409.length co32], .string a1, .string a2] rfl (by (try simp only [List.map_toArray, List.map_cons, List.map_nil]); first | done | rfl | (simp only [List.length_drop, List.length_take]; rfl)) ?_; (with_reducible refine (impl_CountSlideWays.calls k _ _ t406 _ _ t409 a1 a2 t413 t414 _ ?side1 ?side2 ?side3 ?side4 A16.out).mono ?_); (case side1 => refine (Kd.R_reads' (e := 3) (base := w.heap.size) (ok := fun k_ => (True ∧ some k_ ≠ (.slice Ao23 t398.length co23 : Value).ownBlock)) (n := t406.length) (c := co29) ?_).2.2; exact (by (with_reducible repeat (first | apply rA | apply rN | apply rD)); exact (Kd.R_mono (Kd.R_far (p := ⟨gb412, 1, none⟩) (Kd.R_far (p := ⟨gb412, 0, none⟩) (Kd.R_types HO408.out BK412.out (by decide)) (fun _ hk => hk.2) (.slice Ao29 t406.length co29)) (fun _ hk => hk.2) (.slice Ao32 t409.length co32)) (fun _ h_ => h_.1)))); (case side2 => exact (Kd.R_reads' HO408.out).2.1); (case side3 => refine (Kd.R_reads' (e := 111) (base := w.heap.size) (ok := fun k_ => (True ∧ some k_ ≠ (.slice Ao24 t401.length co24 : Value).ownBlock)) (n := t409.length) (c := co32) ?_).2.2; exact (by (with_reducible repeat (first | apply rA | apply rN | apply rD)); exact (Kd.R_mono (Kd.R_far (p := ⟨gb412, 1, none⟩) (Kd.R_far (p := ⟨gb412, 0, none⟩) (Kd.R_types HO411.out BK412.out (by decide)) (fun _ hk => hk.2) (.slice Ao29 t406.length co29)) (fun _ hk => hk.2) (.slice Ao32 t409.length co32)) (fun _ h_ => h_.1)))); (case side4 => exact (Kd.R_reads' HO411.out).2.1); rintro e w33 ⟨rfl, hb⟩; refine ⟨_, rfl, ?_⟩; have n0_ := aM (Kd.R_below (by (with_reducible repeat (first | apply rA | apply rN | apply rD)); exact (Kd.R_mono (Kd.R_far (p := ⟨gb412, 1, none⟩) (Kd.R_far (p := ⟨gb412, 0, none⟩) (Kd.R_types HO400.out BK412.out (by decide)) (fun _ hk => hk.2) (.slice Ao29 t406.length co29)) (fun _ hk => hk.2) (.slice Ao32 t409.length co32)) (fun _ h_ => h_.1))) hb); have n1_ := aM (Kd.R_below (by (with_reducible repeat (first | apply rA | apply rN | apply rD)); exact (Kd.R_mono (Kd.R_far (p := ⟨gb412, 1, none⟩) (Kd.R_far (p := ⟨gb412, 0, none⟩) (Kd.R_types HO403.out BK412.out (by decide)) (fun _ hk => hk.2) (.slice Ao29 t406.length co29)) (fun _ hk => hk.2) (.slice Ao32 t409.length co32)) (fun _ h_ => h_.1))) hb); have n2_ := aM (Kd.R_below (by (with_reducible repeat (first | apply rA | apply rN | apply rD)); exact (Kd.R_mono (Kd.R_far (p := ⟨gb412, 1, none⟩) (Kd.R_far (p := ⟨gb412, 0, none⟩) (Kd.R_types HO408.out BK412.out (by decide)) (fun _ hk => hk.2) (.slice Ao29 t406.length co29)) (fun _ hk => hk.2) (.slice Ao32 t409.length co32)) (fun _ h_ => h_.1))) hb); have n3_ := aM (Kd.R_below (by (with_reducible repeat (first | apply rA | apply rN | apply rD)); exact (Kd.R_mono (Kd.R_far (p := ⟨gb412, 1, none⟩) (Kd.R_far (p := ⟨gb412, 0, none⟩) (Kd.R_types HO411.out BK412.out (by decide)) (fun _ hk => hk.2) (.slice Ao29 t406.length co29)) (fun _ hk => hk.2) (.slice Ao32 t409.length co32)) (fun _ h_ => h_.1))) hb); have n4_ := aM (blk_below (g := gb396) (o := .cells #[.slice A0_0 l0_0.length c0_0, .slice A0_1 l0_1.length c0_1] 25 (0, 0)) (by (with_reducible repeat (first | refine kN ?_ _ | refine kD ?_ | refine kA ?_ _)); refine blk_far ?_ NB396_412.out _; (with_reducible repeat (first | refine kN ?_ _ | refine kD ?_ | refine kA ?_ _)); refine blk_far ?_ NB396_412.out _; (with_reducible repeat (first | refine kN ?_ _ | refine kD ?_ | refine kA ?_ _)); exact BK396.out) hb); have n5_ := aM (blk_below (g := gb412) (o := .cells #[.slice Ao29 t406.length co29, .slice Ao32 t409.length co32] 33 (0, 0)) (by (with_reducible repeat (first | refine kN ?_ _ | refine kD ?_ | refine kA ?_ _)); refine blk_put (cs := #[.slice Ao29 t406.length co29, .slice none 0 0]) ?_ 1 _ rfl; (with_reducible repeat (first | refine kN ?_ _ | refine kD ?_ | refine kA ?_ _)); refine blk_put (cs := #[.slice none 0 0, .slice none 0 0]) ?_ 0 _ rfl; (with_reducible repeat (first | refine kN ?_ _ | refine kD ?_ | refine kA ?_ _)); exact BK412.out) hb); have n6_ := aM (below_step (by repeat (first | (with_reducible first | exact HB.out | apply bA | apply bN | apply bD | refine bS ?_ GE396.out | refine bS ?_ GE412.out) | exact HB.out)) hb); clear HO400; clear HO403; clear HO408; clear HO411; clear BK396; clear BK412; clear HB; have HO400 := n0_; have HO403 := n1_; have HO408 := n2_; have HO411 := n3_; have BK396 := n4_; have BK412 := n5_; have HB := n6_; clear n0_ n1_ n2_ n3_ n4_ n5_ n6_; (try clear hb); (try clear hb2); (try clear hk); (try clear hi)))
    (try simp only [Act.put, sA, sB, sC])
    go_cut [48] (fun v48 wc => ∃ (kq : Nat) (x48_16 : Bool), v48 = .bool x48_16 ∧ Aside0 (laws_FnExactCountSlideWays.j0 kq x48_16 l0_0 l0_1 t406 t409 = some r) ∧ Aside0 (kq ≤ k) ∧ Aside0 (Kd.R (Kd.int .i64) 3 wc w.heap.size (fun _ => True) (.slice Ao29 t406.length co29) t406) ∧ Aside0 (Kd.R k111 111 wc w.heap.size (fun _ => True) (.slice Ao32 t409.length co32) t409) ∧ Aside0 (wc.heap[gb396]? = some (.cells #[(.slice A0_0 l0_0.length c0_0), (.slice A0_1 l0_1.length c0_1)] 25 (0, 0))) ∧ Aside0 (wc.heap[gb412]? = some (.cells #[(.slice Ao29 t406.length co29), (.slice Ao32 t409.length co32)] 33 (0, 0))) ∧ Aside0 (Below w.heap.size w wc))
    case first =>
     have H := HC17.out
     clear HC17
     by_cases c34 : t413 = t404
     ·rw [if_pos c34] at H
      have c34b0 : (t413 == t404) = true := beq_iff_eq.mpr c34
      have c34b1 : (t413 != t404) = false := bne_eq_false_iff_eq.mpr c34
      clear c34
      (first | rw [c34b0] | (simp only [i64_w, i32_w]; rw [c34b0]) | skip)
      have H' := aM H
      clear H
      go_wp2
      go_meet
      case rel => exact ⟨_, ((t414 != t405)), (by first | rfl | (simp; done) | (simp [*]; done)), H', ⟨by first | omega | exact Nat.le_refl _⟩, ⟨by (with_reducible repeat (first | apply rA | apply rN | apply rD)); exact Kd.R_mono HO408.out (fun _ hk => trivial)⟩, ⟨by (with_reducible repeat (first | apply rA | apply rN | apply rD)); exact Kd.R_mono HO411.out (fun _ hk => trivial)⟩, ⟨by (with_reducible repeat (first | refine kN ?_ _ | refine kD ?_ | refine kA ?_ _)); exact BK396.out⟩, ⟨by (with_reducible repeat (first | refine kN ?_ _ | refine kD ?_ | refine kA ?_ _)); exact BK412.out⟩, ⟨by repeat (first | (with_reducible first | exact HB.out | apply bA | apply bN | apply bD | refine bS ?_ GE396.out | refine bS ?_ GE412.out) | exact HB.out)⟩⟩
     ·rw [if_neg c34] at H
      have c34b0 : (t413 == t404) = false := beq_eq_false_iff_ne.mpr c34
      have c34b1 : (t413 != t404) = true := bne_iff_ne.mpr c34
      (first | rw [c34b0] | (simp only [i64_w, i32_w]; rw [c34b0]) | skip)
      have H' := aM H
      clear H
      go_wp2
      go_meet
      case rel => exact ⟨_, (true), (by first | rfl | (simp; done) | (simp [*]; done)), H', ⟨by first | omega | exact Nat.le_refl _⟩, ⟨by (with_reducible repeat (first | apply rA | apply rN | apply rD)); exact Kd.R_mono HO408.out (fun _ hk => trivial)⟩, ⟨by (with_reducible repeat (first | apply rA | apply rN | apply rD)); exact Kd.R_mono HO411.out (fun _ hk => trivial)⟩, ⟨by (with_reducible repeat (first | refine kN ?_ _ | refine kD ?_ | refine kA ?_ _)); exact BK396.out⟩, ⟨by (with_reducible repeat (first | refine kN ?_ _ | refine kD ?_ | refine kA ?_ _)); exact BK412.out⟩, ⟨by repeat (first | (with_reducible first | exact HB.out | apply bA | apply bN | apply bD | refine bS ?_ GE396.out | refine bS ?_ GE412.out) | exact HB.out)⟩⟩
    case rest =>
     clear HC17
     try clear c1
     try clear p2
     try clear c3
     try clear c4
     try clear c4b0
     try clear c4b1
     try clear c6
     try clear c6b0
     try clear c6b1
     try clear c8
     try clear c9
     try clear c9b0
     try clear c13
     try clear c15
     try clear c30
     try clear c31
     try clear c32
     try clear c34
     try clear c34b0
     try clear c34b1
     try clear hcz11_0
     try clear hcz11_1
     try clear hcz19_0
     try clear hcz19_1
     try clear hcz21_0
     try clear hcz21_1
     try clear hcz26_0
     try clear hcz26_1
     try clear hcz31_0
     try clear hcz31_1
     try clear hfz11_0
     try clear hfz11_1
     try clear hfz19_0
     try clear hfz19_1
     try clear hfz21_0
     try clear hfz21_1
     try clear hfz26_0
     try clear hfz26_1
     try clear hfz31_0
     try clear hfz31_1
     obtain ⟨kq, x48_16, rfl, HA, HJ16, HO_413000, HO_413001, BK396, BK412, HB⟩ := hcut
     cases kq with
     | zero => exact absurd HA.out (by simp [laws_FnExactCountSlideWays.j0])
     | succ kj16 =>
      have H := HA.out
      clear HA
      simp only [laws_FnExactCountSlideWays.j0] at H
      by_cases c35 : x48_16 = true
      ·subst c35
       have H1 : (some false) = some r := by rw [if_pos rfl] at H; exact H
       clear H; have H := H1; clear H1
       obtain rfl := Option.some.inj H
       go_wp2
       go_ret
       exact ⟨by first | rfl | (simp [errW_none, errW_some] <;> rfl) | (simp [*, errW_none, errW_some] <;> rfl), by repeat (first | (with_reducible first | exact HB.out | apply bA | apply bN | apply bD | refine bS ?_ GE396.out | refine bS ?_ GE412.out) | exact HB.out)⟩
      ·replace c35 := Bool.eq_false_iff.mpr c35
       subst c35
       have H1 : ((laws_toBolts.f kj16 l0_0 l0_1).bind fun bt415 => ((laws_eqBolts.f kj16 t406 t409 bt415.1 bt415.2).bind fun t421 => (if t421 = true then (some true) else (some false)))) = some r := by rw [if_neg (show ¬ (false = true) by decide)] at H; exact H
       clear H; have H := H1; clear H1
       replace H := Option.bind_eq_some_iff.mp H
       obtain ⟨⟨t415, t418⟩, A360, H⟩ := H
       replace H : ((laws_eqBolts.f kj16 t406 t409 t415 t418).bind fun t421 => (if t421 = true then (some true) else (some false))) = some r := H
       have A36 := aM A360
       clear A360
       replace H := Option.bind_eq_some_iff.mp H
       obtain ⟨t421, A370, H⟩ := H
       replace H : (if t421 = true then (some true) else (some false)) = some r := H
       have A37 := aM A370
       clear A370
       by_cases c38 : t421 = true
       ·subst c38
        have H1 : (some true) = some r := by rw [if_pos rfl] at H; exact H
        clear H; have H := H1; clear H1
        obtain rfl := Option.some.inj H
        try go_wp2
        have n0_ := aM (Kd.R_drew HO_413000.out)
        have n1_ := aM (Kd.R_drew HO_413001.out)
        have n2_ := aM (blk_drew BK396.out)
        have n3_ := aM (blk_drew BK412.out)
        have n4_ := aM (below_drew1 HB.out)
        clear HO_413000 HO_413001 BK396 BK412 HB
        have HO_413000 := n0_
        have HO_413001 := n1_
        have BK396 := n2_
        have BK412 := n3_
        have HB := n4_
        clear n0_ n1_ n2_ n3_ n4_
        refine start_ (n := 5) (S := fun w' => w'.cell? ⟨gb412, 0, none⟩ = some (.slice Ao29 t406.length co29) ∧ w'.cell? ⟨gb412, 1, none⟩ = some (.slice Ao32 t409.length co32) ∧ w'.cell? ⟨gb396, 0, none⟩ = some (.slice A0_0 l0_0.length c0_0) ∧ w'.cell? ⟨gb396, 1, none⟩ = some (.slice A0_1 l0_1.length c0_1)) (ds := []) #[F,F,F,F,F] (by kernel_rfl) rfl rfl ⟨(blk_cell BK412.out 0).trans rfl, (blk_cell BK412.out 1).trans rfl, (blk_cell BK396.out 0).trans rfl, (blk_cell BK396.out 1).trans rfl⟩ (fun hHeld => ?_)
        generalize wc.drew = w39 at HO_413000 HO_413001 BK396 BK412 HB hHeld ⊢
        refine take_ (i := 0) (N := some 49) (v := ?_) (a' := ?_) #[T,F,F,F,F] rfl rfl (by kernel_rfl) (fun _ _ _ h => h) (Or.inl ⟨by rfl, ?_⟩) hHeld ?_ ?_
        rotate_left
        ·rintro w' ⟨s0, s1, s2, s3⟩
         go_simp
         with_reducible rfl
        rotate_left
        ·simp only [Act.put, sA, sB, sC, i64_w, i32_w]
         rfl
        refine take_ (i := 1) (N := some 50) (v := ?_) (a' := ?_) #[T,T,F,F,F] rfl rfl (by kernel_rfl) (fun _ _ _ h => h) (Or.inl ⟨by rfl, ?_⟩) hHeld ?_ ?_
        rotate_left
        ·rintro w' ⟨s0, s1, s2, s3⟩
         go_simp
         with_reducible rfl
        rotate_left
        ·simp only [Act.put, sA, sB, sC, i64_w, i32_w]
         rfl
        refine one_ (i := 2) (N := some 51) #[T,T,T,F,F] rfl rfl (by kernel_rfl) (by decide) (fun K hK => ?_)
        refine goes_ Try.func15 (by kernel_rfl) rfl #[.agg #[.slice A0_0 l0_0.length c0_0, .slice A0_1 l0_1.length c0_1]] (by rfl) rfl rfl (by (try simp only [List.map_toArray, List.map_cons, List.map_nil]); first | done | rfl | (simp only [List.length_drop, List.length_take]; rfl)) ?_
        with_reducible refine (laws_toBolts.calls kj16 _ _ l0_0 _ _ l0_1 t415 t418 _ ?side1 ?side2 ?side3 ?side4 A36.out).mono ?_
        (case side1 => repeat (first | exact (Kd.C_below HR0_0.out HB.out) | (with_reducible refine cA ?_ _) | (with_reducible refine cN ?_ _) | (with_reducible refine cD ?_)))
        (case side2 => exact HC0_0.out)
        (case side3 => repeat (first | exact (Kd.C_below HR0_1.out HB.out) | (with_reducible refine cA ?_ _) | (with_reducible refine cN ?_ _) | (with_reducible refine cD ?_)))
        (case side4 => exact HC0_1.out)
        rintro e w40 ⟨v416, v419, rfl, ho0, ho1, hb⟩
        refine ⟨_, rfl, ?_⟩
        have n0_ := aM (Kd.R_elder' (by (with_reducible repeat (first | apply rA | apply rN | apply rD)); exact HO_413000.out) (Kd.R_base ho0) hb)
        have n1_ := aM (Kd.R_elder' (by (with_reducible repeat (first | apply rA | apply rN | apply rD)); exact HO_413001.out) (Kd.R_base ho1) hb)
        have n2_ := aM (Kd.R_lower (Kd.R_new' ho0 (Kd.R_lt (by (with_reducible repeat (first | apply rA | apply rN | apply rD)); exact HO_413000.out))) (below_size (by repeat (first | (with_reducible first | exact HB.out | apply bA | apply bN | apply bD | refine bS ?_ GE396.out | refine bS ?_ GE412.out) | exact HB.out))))
        have n3_ := aM (Kd.R_lower (Kd.R_new' ho1 (Kd.R_lt (by (with_reducible repeat (first | apply rA | apply rN | apply rD)); exact HO_413001.out))) (below_size (by repeat (first | (with_reducible first | exact HB.out | apply bA | apply bN | apply bD | refine bS ?_ GE396.out | refine bS ?_ GE412.out) | exact HB.out))))
        have n4_ := aM (blk_below (g := gb396) (o := .cells #[.slice A0_0 l0_0.length c0_0, .slice A0_1 l0_1.length c0_1] 25 (0, 0)) (by (with_reducible repeat (first | refine kN ?_ _ | refine kD ?_ | refine kA ?_ _)); exact BK396.out) hb)
        have n5_ := aM (blk_below (g := gb412) (o := .cells #[.slice Ao29 t406.length co29, .slice Ao32 t409.length co32] 33 (0, 0)) (by (with_reducible repeat (first | refine kN ?_ _ | refine kD ?_ | refine kA ?_ _)); exact BK412.out) hb)
        have n6_ := aM (below_step (by repeat (first | (with_reducible first | exact HB.out | apply bA | apply bN | apply bD | refine bS ?_ GE396.out | refine bS ?_ GE412.out) | exact HB.out)) hb)
        clear HO_413000 HO_413001 BK396 BK412 HB
        have HO_413000 := n0_
        have HO_413001 := n1_
        have HO417 := n2_
        have HO420 := n3_
        have BK396 := n4_
        have BK412 := n5_
        have HB := n6_
        clear n0_ n1_ n2_ n3_ n4_ n5_ n6_
        (try clear hb)
        (try clear hb2)
        (try clear hk)
        (try clear hi)
        (try clear ho0)
        (try clear ho1)
        obtain ⟨Ao41, co41, eo41⟩ := Kd.R_slice HO417.out
        (first | subst eo41 | (injection eo41 with f1_ f2_ f3_; have f4_ := f1_.symm; have f5_ := f3_.symm; clear f1_ f2_ f3_; subst f4_; subst f5_))
        obtain ⟨Ao42, co42, eo42⟩ := Kd.R_slice HO420.out
        (first | subst eo42 | (injection eo42 with f1_ f2_ f3_; have f4_ := f1_.symm; have f5_ := f3_.symm; clear f1_ f2_ f3_; subst f4_; subst f5_))
        refine hK.out _ _ ⟨(blk_cell BK412.out 0).trans rfl, (blk_cell BK412.out 1).trans rfl, (blk_cell BK396.out 0).trans rfl, (blk_cell BK396.out 1).trans rfl⟩ (fun hHeld => ?_)
        clear hK K
        refine norm_ (a' := ?_) ?_ ?_
        rotate_left
        ·show Act.put _ (some 51) _ = _
         simp only [Act.put, sA, sB, sC, i64_w, i32_w]
         rfl
        refine one_ (i := 3) (N := some 52) #[T,T,T,T,F] rfl rfl (by kernel_rfl) (by decide) (fun K hK => ?_)
        refine goes_ Try.func18 (by kernel_rfl) rfl #[.agg #[.slice Ao29 t406.length co29, .slice Ao32 t409.length co32], .agg #[.slice Ao41 t415.length co41, .slice Ao42 t418.length co42]] (by rfl) rfl rfl (by (try simp only [List.map_toArray, List.map_cons, List.map_nil]); first | done | rfl | (simp only [List.length_drop, List.length_take]; rfl)) ?_
        with_reducible refine (laws_eqBolts.calls kj16 _ _ t406 _ _ t409 _ _ t415 _ _ t418 true _ ?side1 ?side2 ?side3 ?side4 ?side5 ?side6 ?side7 ?side8 A37.out).mono ?_
        (case side1 => repeat (first | exact (Kd.R_reads' HO_413000.out).2.2 | (with_reducible refine cA ?_ _) | (with_reducible refine cN ?_ _) | (with_reducible refine cD ?_)))
        (case side2 => exact (Kd.R_reads' HO_413000.out).2.1)
        (case side3 => repeat (first | exact (Kd.R_reads' HO_413001.out).2.2 | (with_reducible refine cA ?_ _) | (with_reducible refine cN ?_ _) | (with_reducible refine cD ?_)))
        (case side4 => exact (Kd.R_reads' HO_413001.out).2.1)
        (case side5 => repeat (first | exact (Kd.R_reads' HO417.out).2.2 | (with_reducible refine cA ?_ _) | (with_reducible refine cN ?_ _) | (with_reducible refine cD ?_)))
        (case side6 => exact (Kd.R_reads' HO417.out).2.1)
        (case side7 => repeat (first | exact (Kd.R_reads' HO420.out).2.2 | (with_reducible refine cA ?_ _) | (with_reducible refine cN ?_ _) | (with_reducible refine cD ?_)))
        (case side8 => exact (Kd.R_reads' HO420.out).2.1)
        rintro e w43 ⟨rfl, hb⟩
        refine ⟨_, rfl, ?_⟩
        have n0_ := aM (Kd.R_below (by (with_reducible repeat (first | apply rA | apply rN | apply rD)); exact HO_413000.out) hb)
        have n1_ := aM (Kd.R_below (by (with_reducible repeat (first | apply rA | apply rN | apply rD)); exact HO_413001.out) hb)
        have n2_ := aM (Kd.R_below (by (with_reducible repeat (first | apply rA | apply rN | apply rD)); exact HO417.out) hb)
        have n3_ := aM (Kd.R_below (by (with_reducible repeat (first | apply rA | apply rN | apply rD)); exact HO420.out) hb)
        have n4_ := aM (blk_below (g := gb396) (o := .cells #[.slice A0_0 l0_0.length c0_0, .slice A0_1 l0_1.length c0_1] 25 (0, 0)) (by (with_reducible repeat (first | refine kN ?_ _ | refine kD ?_ | refine kA ?_ _)); exact BK396.out) hb)
        have n5_ := aM (blk_below (g := gb412) (o := .cells #[.slice Ao29 t406.length co29, .slice Ao32 t409.length co32] 33 (0, 0)) (by (with_reducible repeat (first | refine kN ?_ _ | refine kD ?_ | refine kA ?_ _)); exact BK412.out) hb)
        have n6_ := aM (below_step (by repeat (first | (with_reducible first | exact HB.out | apply bA | apply bN | apply bD | refine bS ?_ GE396.out | refine bS ?_ GE412.out) | exact HB.out)) hb)
        clear HO_413000 HO_413001 HO417 HO420 BK396 BK412 HB
        have HO_413000 := n0_
        have HO_413001 := n1_
        have HO417 := n2_
        have HO420 := n3_
        have BK396 := n4_
        have BK412 := n5_
        have HB := n6_
        clear n0_ n1_ n2_ n3_ n4_ n5_ n6_
        (try clear hb)
        (try clear hb2)
        (try clear hk)
        (try clear hi)
        refine hK.out _ _ ⟨(blk_cell BK412.out 0).trans rfl, (blk_cell BK412.out 1).trans rfl, (blk_cell BK396.out 0).trans rfl, (blk_cell BK396.out 1).trans rfl⟩ (fun hHeld => ?_)
        clear hK K
        refine norm_ (a' := ?_) ?_ ?_
        rotate_left
        ·show Act.put _ (some 52) _ = _
         simp only [Act.put, sA, sB, sC, i64_w, i32_w]
         rfl
        refine pure_ (i := 4) (N := some 53) (v := ?_) (a' := ?_) #[T,T,T,T,T] rfl rfl (by kernel_rfl) (fun _ _ _ h => h) (Or.inl ⟨by rfl, ?_⟩) ?_ ?_; rotate_left; (next => intro w'; go_simp; with_reducible rfl); rotate_left; next => simp only [Act.put, sA, sB, sC, i64_w, i32_w]; rfl
        refine done_ (by kernel_rfl) ?_
        try go_wp2
        go_ret
        exact ⟨by first | rfl | (simp [errW_none, errW_some] <;> rfl) | (simp [*, errW_none, errW_some] <;> rfl), by repeat (first | (with_reducible first | exact HB.out | apply bA | apply bN | apply bD | refine bS ?_ GE396.out | refine bS ?_ GE412.out) | exact HB.out)⟩
       ·replace c38 := Bool.eq_false_iff.mpr c38
        subst c38
        have H1 : (some false) = some r := by rw [if_neg (show ¬ (false = true) by decide)] at H; exact H
        clear H; have H := H1; clear H1
        obtain rfl := Option.some.inj H
        try go_wp2
        have n0_ := aM (Kd.R_drew HO_413000.out)
        have n1_ := aM (Kd.R_drew HO_413001.out)
        have n2_ := aM (blk_drew BK396.out)
        have n3_ := aM (blk_drew BK412.out)
        have n4_ := aM (below_drew1 HB.out)
        clear HO_413000 HO_413001 BK396 BK412 HB
        have HO_413000 := n0_
        have HO_413001 := n1_
        have BK396 := n2_
        have BK412 := n3_
        have HB := n4_
        clear n0_ n1_ n2_ n3_ n4_
        refine start_ (n := 5) (S := fun w' => w'.cell? ⟨gb412, 0, none⟩ = some (.slice Ao29 t406.length co29) ∧ w'.cell? ⟨gb412, 1, none⟩ = some (.slice Ao32 t409.length co32) ∧ w'.cell? ⟨gb396, 0, none⟩ = some (.slice A0_0 l0_0.length c0_0) ∧ w'.cell? ⟨gb396, 1, none⟩ = some (.slice A0_1 l0_1.length c0_1)) (ds := []) #[F,F,F,F,F] (by kernel_rfl) rfl rfl ⟨(blk_cell BK412.out 0).trans rfl, (blk_cell BK412.out 1).trans rfl, (blk_cell BK396.out 0).trans rfl, (blk_cell BK396.out 1).trans rfl⟩ (fun hHeld => ?_)
        generalize wc.drew = w44 at HO_413000 HO_413001 BK396 BK412 HB hHeld ⊢
        refine take_ (i := 0) (N := some 49) (v := ?_) (a' := ?_) #[T,F,F,F,F] rfl rfl (by kernel_rfl) (fun _ _ _ h => h) (Or.inl ⟨by rfl, ?_⟩) hHeld ?_ ?_
        rotate_left
        ·rintro w' ⟨s0, s1, s2, s3⟩
         go_simp
         with_reducible rfl
        rotate_left
        ·simp only [Act.put, sA, sB, sC, i64_w, i32_w]
         rfl
        refine take_ (i := 1) (N := some 50) (v := ?_) (a' := ?_) #[T,T,F,F,F] rfl rfl (by kernel_rfl) (fun _ _ _ h => h) (Or.inl ⟨by rfl, ?_⟩) hHeld ?_ ?_
        rotate_left
        ·rintro w' ⟨s0, s1, s2, s3⟩
         go_simp
         with_reducible rfl
        rotate_left
        ·simp only [Act.put, sA, sB, sC, i64_w, i32_w]
         rfl
        refine one_ (i := 2) (N := some 51) #[T,T,T,F,F] rfl rfl (by kernel_rfl) (by decide) (fun K hK => ?_)
        refine goes_ Try.func15 (by kernel_rfl) rfl #[.agg #[.slice A0_0 l0_0.length c0_0, .slice A0_1 l0_1.length c0_1]] (by rfl) rfl rfl (by (try simp only [List.map_toArray, List.map_cons, List.map_nil]); first | done | rfl | (simp only [List.length_drop, List.length_take]; rfl)) ?_
        with_reducible refine (laws_toBolts.calls kj16 _ _ l0_0 _ _ l0_1 t415 t418 _ ?side1 ?side2 ?side3 ?side4 A36.out).mono ?_
        (case side1 => repeat (first | exact (Kd.C_below HR0_0.out HB.out) | (with_reducible refine cA ?_ _) | (with_reducible refine cN ?_ _) | (with_reducible refine cD ?_)))
        (case side2 => exact HC0_0.out)
        (case side3 => repeat (first | exact (Kd.C_below HR0_1.out HB.out) | (with_reducible refine cA ?_ _) | (with_reducible refine cN ?_ _) | (with_reducible refine cD ?_)))
        (case side4 => exact HC0_1.out)
        rintro e w45 ⟨v416, v419, rfl, ho0, ho1, hb⟩
        refine ⟨_, rfl, ?_⟩
        have n0_ := aM (Kd.R_elder' (by (with_reducible repeat (first | apply rA | apply rN | apply rD)); exact HO_413000.out) (Kd.R_base ho0) hb)
        have n1_ := aM (Kd.R_elder' (by (with_reducible repeat (first | apply rA | apply rN | apply rD)); exact HO_413001.out) (Kd.R_base ho1) hb)
        have n2_ := aM (Kd.R_lower (Kd.R_new' ho0 (Kd.R_lt (by (with_reducible repeat (first | apply rA | apply rN | apply rD)); exact HO_413000.out))) (below_size (by repeat (first | (with_reducible first | exact HB.out | apply bA | apply bN | apply bD | refine bS ?_ GE396.out | refine bS ?_ GE412.out) | exact HB.out))))
        have n3_ := aM (Kd.R_lower (Kd.R_new' ho1 (Kd.R_lt (by (with_reducible repeat (first | apply rA | apply rN | apply rD)); exact HO_413001.out))) (below_size (by repeat (first | (with_reducible first | exact HB.out | apply bA | apply bN | apply bD | refine bS ?_ GE396.out | refine bS ?_ GE412.out) | exact HB.out))))
        have n4_ := aM (blk_below (g := gb396) (o := .cells #[.slice A0_0 l0_0.length c0_0, .slice A0_1 l0_1.length c0_1] 25 (0, 0)) (by (with_reducible repeat (first | refine kN ?_ _ | refine kD ?_ | refine kA ?_ _)); exact BK396.out) hb)
        have n5_ := aM (blk_below (g := gb412) (o := .cells #[.slice Ao29 t406.length co29, .slice Ao32 t409.length co32] 33 (0, 0)) (by (with_reducible repeat (first | refine kN ?_ _ | refine kD ?_ | refine kA ?_ _)); exact BK412.out) hb)
        have n6_ := aM (below_step (by repeat (first | (with_reducible first | exact HB.out | apply bA | apply bN | apply bD | refine bS ?_ GE396.out | refine bS ?_ GE412.out) | exact HB.out)) hb)
        clear HO_413000 HO_413001 BK396 BK412 HB
        have HO_413000 := n0_
        have HO_413001 := n1_
        have HO417 := n2_
        have HO420 := n3_
        have BK396 := n4_
        have BK412 := n5_
        have HB := n6_
        clear n0_ n1_ n2_ n3_ n4_ n5_ n6_
        (try clear hb)
        (try clear hb2)
        (try clear hk)
        (try clear hi)
        (try clear ho0)
        (try clear ho1)
        obtain ⟨Ao46, co46, eo46⟩ := Kd.R_slice HO417.out
        (first | subst eo46 | (injection eo46 with f1_ f2_ f3_; have f4_ := f1_.symm; have f5_ := f3_.symm; clear f1_ f2_ f3_; subst f4_; subst f5_))
        obtain ⟨Ao47, co47, eo47⟩ := Kd.R_slice HO420.out
        (first | subst eo47 | (injection eo47 with f1_ f2_ f3_; have f4_ := f1_.symm; have f5_ := f3_.symm; clear f1_ f2_ f3_; subst f4_; subst f5_))
        refine hK.out _ _ ⟨(blk_cell BK412.out 0).trans rfl, (blk_cell BK412.out 1).trans rfl, (blk_cell BK396.out 0).trans rfl, (blk_cell BK396.out 1).trans rfl⟩ (fun hHeld => ?_)
        clear hK K
        refine norm_ (a' := ?_) ?_ ?_
        rotate_left
        ·show Act.put _ (some 51) _ = _
         simp only [Act.put, sA, sB, sC, i64_w, i32_w]
         rfl
        refine one_ (i := 3) (N := some 52) #[T,T,T,T,F] rfl rfl (by kernel_rfl) (by decide) (fun K hK => ?_)
        refine goes_ Try.func18 (by kernel_rfl) rfl #[.agg #[.slice Ao29 t406.length co29, .slice Ao32 t409.length co32], .agg #[.slice Ao46 t415.length co46, .slice Ao47 t418.length co47]] (by rfl) rfl rfl (by (try simp only [List.map_toArray, List.map_cons, List.map_nil]); first | done | rfl | (simp only [List.length_drop, List.length_take]; rfl)) ?_
        with_reducible refine (laws_eqBolts.calls kj16 _ _ t406 _ _ t409 _ _ t415 _ _ t418 false _ ?side1 ?side2 ?side3 ?side4 ?side5 ?side6 ?side7 ?side8 A37.out).mono ?_
        (case side1 => repeat (first | exact (Kd.R_reads' HO_413000.out).2.2 | (with_reducible refine cA ?_ _) | (with_reducible refine cN ?_ _) | (with_reducible refine cD ?_)))
        (case side2 => exact (Kd.R_reads' HO_413000.out).2.1)
        (case side3 => repeat (first | exact (Kd.R_reads' HO_413001.out).2.2 | (with_reducible refine cA ?_ _) | (with_reducible refine cN ?_ _) | (with_reducible refine cD ?_)))
        (case side4 => exact (Kd.R_reads' HO_413001.out).2.1)
        (case side5 => repeat (first | exact (Kd.R_reads' HO417.out).2.2 | (with_reducible refine cA ?_ _) | (with_reducible refine cN ?_ _) | (with_reducible refine cD ?_)))
        (case side6 => exact (Kd.R_reads' HO417.out).2.1)
        (case side7 => repeat (first | exact (Kd.R_reads' HO420.out).2.2 | (with_reducible refine cA ?_ _) | (with_reducible refine cN ?_ _) | (with_reducible refine cD ?_)))
        (case side8 => exact (Kd.R_reads' HO420.out).2.1)
        rintro e w48 ⟨rfl, hb⟩
        refine ⟨_, rfl, ?_⟩
        have n0_ := aM (Kd.R_below (by (with_reducible repeat (first | apply rA | apply rN | apply rD)); exact HO_413000.out) hb)
        have n1_ := aM (Kd.R_below (by (with_reducible repeat (first | apply rA | apply rN | apply rD)); exact HO_413001.out) hb)
        have n2_ := aM (Kd.R_below (by (with_reducible repeat (first | apply rA | apply rN | apply rD)); exact HO417.out) hb)
        have n3_ := aM (Kd.R_below (by (with_reducible repeat (first | apply rA | apply rN | apply rD)); exact HO420.out) hb)
        have n4_ := aM (blk_below (g := gb396) (o := .cells #[.slice A0_0 l0_0.length c0_0, .slice A0_1 l0_1.length c0_1] 25 (0, 0)) (by (with_reducible repeat (first | refine kN ?_ _ | refine kD ?_ | refine kA ?_ _)); exact BK396.out) hb)
        have n5_ := aM (blk_below (g := gb412) (o := .cells #[.slice Ao29 t406.length co29, .slice Ao32 t409.length co32] 33 (0, 0)) (by (with_reducible repeat (first | refine kN ?_ _ | refine kD ?_ | refine kA ?_ _)); exact BK412.out) hb)
        have n6_ := aM (below_step (by repeat (first | (with_reducible first | exact HB.out | apply bA | apply bN | apply bD | refine bS ?_ GE396.out | refine bS ?_ GE412.out) | exact HB.out)) hb)
        clear HO_413000 HO_413001 HO417 HO420 BK396 BK412 HB
        have HO_413000 := n0_
        have HO_413001 := n1_
        have HO417 := n2_
        have HO420 := n3_
        have BK396 := n4_
        have BK412 := n5_
        have HB := n6_
        clear n0_ n1_ n2_ n3_ n4_ n5_ n6_
        (try clear hb)
        (try clear hb2)
        (try clear hk)
        (try clear hi)
        refine hK.out _ _ ⟨(blk_cell BK412.out 0).trans rfl, (blk_cell BK412.out 1).trans rfl, (blk_cell BK396.out 0).trans rfl, (blk_cell BK396.out 1).trans rfl⟩ (fun hHeld => ?_)
        clear hK K
        refine norm_ (a' := ?_) ?_ ?_
        rotate_left
        ·show Act.put _ (some 52) _ = _
         simp only [Act.put, sA, sB, sC, i64_w, i32_w]
         rfl
        refine pure_ (i := 4) (N := some 53) (v := ?_) (a' := ?_) #[T,T,T,T,T] rfl rfl (by kernel_rfl) (fun _ _ _ h => h) (Or.inl ⟨by rfl, ?_⟩) ?_ ?_; rotate_left; (next => intro w'; go_simp; with_reducible rfl); rotate_left; next => simp only [Act.put, sA, sB, sC, i64_w, i32_w]; rfl
        refine done_ (by kernel_rfl) ?_
        try go_wp2
        go_ret
        exact ⟨by first | rfl | (simp [errW_none, errW_some] <;> rfl) | (simp [*, errW_none, errW_some] <;> rfl), by repeat (first | (with_reducible first | exact HB.out | apply bA | apply bN | apply bD | refine bS ?_ GE396.out | refine bS ?_ GE412.out) | exact HB.out)⟩

/-- THE ONE PURE STATEMENT of laws_FnExactCountSlideWays. -/
def laws_FnExactCountSlideWays.Pure : Prop := ∀ (l0_0 : List Int) (l0_1 : List (S113)) (a1 : ByteArray) (a2 : ByteArray), l0_0.length ≤ maxLen → (∀ x ∈ l0_0, (Lit.int .i64 x).wf = true) → l0_1.length ≤ maxLen → a1.size ≤ 140737488351232 → a2.size ≤ 140737488351232 → ∃ k, laws_FnExactCountSlideWays.f k l0_0 l0_1 a1 a2 = some true
theorem laws_FnExactCountSlideWays.walk (P : laws_FnExactCountSlideWays.Pure) (A0_0 : Option Addr) (c0_0 : Nat) (l0_0 : List (Int)) (A0_1 : Option Addr) (c0_1 : Nat) (l0_1 : List (S113)) (a1 : ByteArray) (a2 : ByteArray) (w : World) (hr0_0 : Kd.C (Kd.int .i64) w A0_0 l0_0.length l0_0) (hc0_0 : l0_0.length ≤ c0_0) (w0_ : l0_0.length ≤ maxLen) (w1_ : (∀ x ∈ l0_0, (Lit.int .i64 x).wf = true)) (hr0_1 : Kd.C k113 w A0_1 l0_1.length l0_1) (hc0_1 : l0_1.length ≤ c0_1) (w2_ : l0_1.length ≤ maxLen) (w3_ : a1.size ≤ 140737488351232) (w4_ : a2.size ≤ 140737488351232) :
  Calls Try.prog 8 #[.agg #[.slice A0_0 l0_0.length c0_0, .slice A0_1 l0_1.length c0_1], .string a1, .string a2] w fun e w' => e = .returned (.bool true) ∧ Below w.heap.size w w' := by
 obtain ⟨k, h⟩ := P l0_0 l0_1 a1 a2 w0_ w1_ w2_ w3_ w4_
 refine (laws_FnExactCountSlideWays.calls k A0_0 c0_0 l0_0 A0_1 c0_1 l0_1 a1 a2 true w hr0_0 hc0_0 hr0_1 hc0_1 h).mono ?_
 rintro e w' ⟨rfl, hd⟩
 exact ⟨rfl, hd⟩

end Go.Proofs.Ytejkogiiocbmfaa.PC
