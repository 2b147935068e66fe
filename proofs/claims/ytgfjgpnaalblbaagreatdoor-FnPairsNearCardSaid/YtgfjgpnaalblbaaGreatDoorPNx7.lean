-- written by a program of this session's (wip/tools), over the kit's print
import Derived.Test.YtgfjgpnaalblbaaGreatDoorPNx0
import Derived.Test.YtgfjgpnaalblbaaGreatDoorPNx2
import Derived.Test.YtgfjgpnaalblbaaGreatDoorPNx3
import Derived.Test.YtgfjgpnaalblbaaGreatDoorPNx4
import Derived.Test.YtgfjgpnaalblbaaGreatDoorPNx6
-- squeezed
-- squeezed twice
namespace Go.Proofs.YtgfjgpnaalblbaaGreatDoor.PN
open Go.RowKit Go.Proofs.YtgfjgpnaalblbaaGreatDoorW.PrintWords Go.Proofs.YtgfjgpnaalblbaaGreatDoorW.PrintLast Go.Proofs.YtgfjgpnaalblbaaGreatDoorW.PrintMore
attribute [local go_sem] max2_int min2_int max_two min_two max_three min_three max_four min_four   -- for this text's walks alone
set_option linter.unusedVariables false
set_option linter.unusedSimpArgs false

/-! ### spec_riState: function 33 -/
def spec_riState.l0 : Nat → Int → Int → ByteArray → Int → Option (ByteArray)
 | 0, _, _, _, _ => none
 | k + 1, x0, x1, x5, x6 => if x6 < x0 then (if 0 ≤ x6 then (if 0 ≤ (wrap64 (x6 + 1)) then (if (Go.bits .and .i64 (shr .i64 x1 x6) 1) = (Go.bits .and .i64 (shr .i64 x1 (wrap64 (x6 + 1))) 1) then (if x5.size + 1 ≤ 9223372036854775807 then (spec_riState.l0 k x0 x1 (x5 ++ (⟨#[48]⟩ : ByteArray)) (wrap64 (x6 + 1))) else (none)) else (if x5.size + 1 ≤ 9223372036854775807 then (spec_riState.l0 k x0 x1 (x5 ++ (⟨#[49]⟩ : ByteArray)) (wrap64 (x6 + 1))) else (none))) else (none)) else (none)) else (some x5)
def spec_riState.f (k : Nat) (a0 : Int) (a1 : Int) : Option (ByteArray) := spec_riState.l0 k a0 a1 (⟨#[]⟩ : ByteArray) 0
theorem spec_riState.mono_l : ∀ k, (∀ y0 y1 y2 y3, LeO (spec_riState.l0 k y0 y1 y2 y3) (spec_riState.l0 (k + 1) y0 y1 y2 y3))
 | 0 => fun _ _ _ _ r h => by simp [spec_riState.l0] at h
 | k + 1 => by
  have ih0 := spec_riState.mono_l k
  ·intro y0 y1 y2 y3
   unfold spec_riState.l0
   repeat' first
   | (with_reducible exact ih0 _ _ _ _)
   | (with_reducible exact LeO.refl _)
   | (with_reducible exact LeO.none _)
   | (with_reducible refine LeO.ite ?_ ?_)
   | (with_reducible refine LeO.bind ?_ (fun _ => ?_))
   | exact ih0 _ _ _ _
   | exact LeO.none _
   | refine LeO.ite ?_ ?_
   | refine LeO.bind ?_ (fun _ => ?_)
theorem spec_riState.mono : ∀ a0 a1 k, LeO (spec_riState.f k a0 a1) (spec_riState.f (k + 1) a0 a1) := by
 intro a0 a1 k
 have ih0 := spec_riState.mono_l k
 unfold spec_riState.f
 repeat' first
   | (with_reducible exact ih0 _ _ _ _)
   | (with_reducible exact LeO.refl _)
   | (with_reducible exact LeO.none _)
   | (with_reducible refine LeO.ite ?_ ?_)
   | (with_reducible refine LeO.bind ?_ (fun _ => ?_))
   | exact ih0 _ _ _ _
   | exact LeO.none _
   | refine LeO.ite ?_ ?_
   | refine LeO.bind ?_ (fun _ => ?_)
set_option maxHeartbeats 8000000 in
set_option maxRecDepth 100000 in
theorem spec_riState.calls (k : Nat) (a0 : Int) (a1 : Int) (r : ByteArray) (w : World) (h : spec_riState.f k a0 a1 = some r) :
  Calls Tryz.prog 33 #[.int .i64 a0, .int .i64 a1] w fun e w' => e = .returned (.string r) ∧ Drawn0 w w' := by
 have H : (spec_riState.l0 k a0 a1 (⟨#[]⟩ : ByteArray) 0) = some r := h
 clear h
 have H' := aM H
 clear H
 go_enter Tryz.func33, Tryz.ntmps33
 go_wp2
 repeat (go_quiet (fail); try go_wp2)
 go_loopg [5, 6] k (fun kq v5 v6 w' => ∃ (x5_1 : ByteArray) (x6_1 : Int), v5 = .string x5_1 ∧ v6 = .int .i64 x6_1 ∧ Aside0 (spec_riState.l0 kq a0 a1 x5_1 x6_1 = some r) ∧ Aside0 (kq ≤ k) ∧ Drawn0 w w')
 case atStart => exact ⟨((⟨#[]⟩ : ByteArray)), (0), (by first | rfl | (simp; done) | (simp [*]; done)), (by first | rfl | (simp; done) | (simp [*]; done)), H', ⟨Nat.le_refl _⟩, by repeat (first | exact Drawn0.refl _ | apply Drawn0.step)⟩
 case round =>
  clear H'
  try clear p2
  obtain ⟨x5_1, x6_1, rfl, rfl, HA, HK1, ⟨m1, rfl⟩⟩ := hrel
  cases gk with
  | zero => exact absurd HA.out (by simp [spec_riState.l0])
  | succ k1 =>
   have H := HA.out
   clear HA
   simp only [spec_riState.l0] at H
   by_cases c3 : x6_1 < a0
   ·rw [if_pos c3] at H
    have c3b0 : decide (x6_1 < a0) = true := decide_eq_true c3
    clear c3
    by_cases c4 : 0 ≤ x6_1
    ·rw [if_pos c4] at H
     have c4b0 := eq_true c4
     have c4b1 : decide (0 ≤ x6_1) = true := decide_eq_true c4
     clear c4
     obtain ⟨ji5, hji5⟩ : ∃ j_ : Int, (shr .i64 a1 x6_1) = j_ := ⟨_, rfl⟩
     replace H : (if 0 ≤ (wrap64 (x6_1 + 1)) then (if (Go.bits .and .i64 (ji5) 1) = (Go.bits .and .i64 (shr .i64 a1 (wrap64 (x6_1 + 1))) 1) then (if x5_1.size + 1 ≤ 9223372036854775807 then (spec_riState.l0 k1 a0 a1 (x5_1 ++ (⟨#[48]⟩ : ByteArray)) (wrap64 (x6_1 + 1))) else (none)) else (if x5_1.size + 1 ≤ 9223372036854775807 then (spec_riState.l0 k1 a0 a1 (x5_1 ++ (⟨#[49]⟩ : ByteArray)) (wrap64 (x6_1 + 1))) else (none))) else (none)) = some r := by first | (rw [hji5] at H; exact H) | (simp only [hji5] at H ⊢; exact H)
     have hji5_ : (a1 / 2 ^ min x6_1.toNat 64) = ji5 := hji5
     have hji5z : x6_1 ≤ 64 → (a1 / 2 ^ x6_1.toNat) = ji5 := shr_small hji5
     obtain ⟨ji6, hji6⟩ : ∃ j_ : Int, (wrap64 (x6_1 + 1)) = j_ := ⟨_, rfl⟩
     replace H : (if 0 ≤ (ji6) then (if (Go.bits .and .i64 (ji5) 1) = (Go.bits .and .i64 (shr .i64 a1 (ji6)) 1) then (if x5_1.size + 1 ≤ 9223372036854775807 then (spec_riState.l0 k1 a0 a1 (x5_1 ++ (⟨#[48]⟩ : ByteArray)) ji6) else (none)) else (if x5_1.size + 1 ≤ 9223372036854775807 then (spec_riState.l0 k1 a0 a1 (x5_1 ++ (⟨#[49]⟩ : ByteArray)) ji6) else (none))) else (none)) = some r := by first | (rw [hji6] at H; exact H) | (simp only [hji6] at H ⊢; exact H)
     have hji6w : (IntKind.i64.wrap (x6_1 + 1)) = ji6 := (i64_w _).trans hji6
     by_cases c7 : 0 ≤ (ji6)
     ·rw [if_pos c7] at H
      have c7b0 := eq_true c7
      have c7b1 : decide (0 ≤ (ji6)) = true := decide_eq_true c7
      clear c7
      obtain ⟨ji8, hji8⟩ : ∃ j_ : Int, (shr .i64 a1 (ji6)) = j_ := ⟨_, rfl⟩
      replace H : (if (Go.bits .and .i64 (ji5) 1) = (Go.bits .and .i64 (ji8) 1) then (if x5_1.size + 1 ≤ 9223372036854775807 then (spec_riState.l0 k1 a0 a1 (x5_1 ++ (⟨#[48]⟩ : ByteArray)) ji6) else (none)) else (if x5_1.size + 1 ≤ 9223372036854775807 then (spec_riState.l0 k1 a0 a1 (x5_1 ++ (⟨#[49]⟩ : ByteArray)) ji6) else (none))) = some r := by first | (rw [hji8] at H; exact H) | (simp only [hji8] at H ⊢; exact H)
      have hji8_ : (a1 / 2 ^ min (ji6).toNat 64) = ji8 := hji8
      have hji8z : (ji6) ≤ 64 → (a1 / 2 ^ (ji6).toNat) = ji8 := shr_small hji8
      by_cases c9 : (Go.bits .and .i64 (ji5) 1) = (Go.bits .and .i64 (ji8) 1)
      ·rw [if_pos c9] at H
       have c9b0 : ((Go.bits .and .i64 (ji5) 1) == (Go.bits .and .i64 (ji8) 1)) = true := beq_iff_eq.mpr c9
       have c9b1 : ((Go.bits .and .i64 (ji5) 1) != (Go.bits .and .i64 (ji8) 1)) = false := bne_eq_false_iff_eq.mpr c9
       clear c9
       by_cases c10 : x5_1.size + 1 ≤ 9223372036854775807
       ·rw [if_pos c10] at H
        have c10b0 := eq_true c10
        have c10b1 : decide (x5_1.size + 1 ≤ 9223372036854775807) = true := decide_eq_true c10
        try (have c10s := c10; simp at c10s)
        try have c10b2 : (9223372036854775807 < x5_1.size + 1) = False := eq_false (Nat.not_lt.2 c10)
        have H' := aM H
        clear H
        go_wp2
        repeat (go_quiet (fail); try go_wp2)
        go_roundg k1
        case measure => have := HK1.out; omega
        case rel => exact ⟨(x5_1 ++ (⟨#[48]⟩ : ByteArray)), (ji6), (by first | rfl | (simp; done) | (simp [*]; done)), (by first | rfl | (simp; done) | (simp only [← hji6] <;> (first | rfl | simp)) | (simp [*]; done)), H', ⟨by have := HK1.out; omega⟩, by repeat (first | exact Drawn0.refl _ | apply Drawn0.step)⟩
       ·rw [if_neg c10] at H
        exact absurd H (by simp)
      ·rw [if_neg c9] at H
       have c9b0 : ((Go.bits .and .i64 (ji5) 1) == (Go.bits .and .i64 (ji8) 1)) = false := beq_eq_false_iff_ne.mpr c9
       have c9b1 : ((Go.bits .and .i64 (ji5) 1) != (Go.bits .and .i64 (ji8) 1)) = true := bne_iff_ne.mpr c9
       by_cases c11 : x5_1.size + 1 ≤ 9223372036854775807
       ·rw [if_pos c11] at H
        have c11b0 := eq_true c11
        have c11b1 : decide (x5_1.size + 1 ≤ 9223372036854775807) = true := decide_eq_true c11
        try (have c11s := c11; simp at c11s)
        try have c11b2 : (9223372036854775807 < x5_1.size + 1) = False := eq_false (Nat.not_lt.2 c11)
        have H' := aM H
        clear H
        go_wp2
        repeat (go_quiet (fail); try go_wp2)
        go_roundg k1
        case measure => have := HK1.out; omega
        case rel => exact ⟨(x5_1 ++ (⟨#[49]⟩ : ByteArray)), (ji6), (by first | rfl | (simp; done) | (simp [*]; done)), (by first | rfl | (simp; done) | (simp only [← hji6] <;> (first | rfl | simp)) | (simp [*]; done)), H', ⟨by have := HK1.out; omega⟩, by repeat (first | exact Drawn0.refl _ | apply Drawn0.step)⟩
       ·rw [if_neg c11] at H
        exact absurd H (by simp)
     ·rw [if_neg c7] at H
      exact absurd H (by simp)
    ·rw [if_neg c4] at H
     exact absurd H (by simp)
   ·rw [if_neg c3] at H
    have c3b0 : decide (x6_1 < a0) = false := decide_eq_false c3
    clear c3
    obtain rfl := Option.some.inj H
    go_wp2
    repeat (go_quiet (fail); try go_wp2)
    go_ret
    exact ⟨by first | rfl | (simp; done) | (simp [*]; done), by repeat (first | exact Drawn0.refl _ | apply Drawn0.step)⟩

/-! ### spec_NearByPairs: function 7 -/
mutual
def spec_NearByPairs.j0 : Nat → ByteArray → Int → Bool → Option (List ByteArray × Bool)
 | 0, _, _, _ => none
 | k + 1, x0, x1, x18 => if x18 = true then (some (([] : List ByteArray), false)) else ((spec_twFar.f k x0).bind fun bt317 => (spec_NearByPairs.l0 k x0 x1 ([] : List ByteArray) bt317.1 (bt317.1.length : Int) 0))
def spec_NearByPairs.l0 : Nat → ByteArray → Int → List ByteArray → List Int → Int → Int → Option (List ByteArray × Bool)
 | 0, _, _, _, _, _, _ => none
 | k + 1, x0, x1, x8, x24, x25, x26 => if x26 < x25 then (if 0 ≤ x26 then (if x26 < (x24.length : Int) then (if (rd x24 x26) ≤ x1 then ((spec_riState.f k (x0.size : Int) x26).bind fun t324 => (if x8.length < 8796093022208 then (spec_NearByPairs.l0 k x0 x1 (x8 ++ [t324]) x24 x25 (wrap64 (x26 + 1))) else (none))) else (spec_NearByPairs.l0 k x0 x1 x8 x24 x25 (wrap64 (x26 + 1)))) else (none)) else (none)) else (some (x8, true))
end
def spec_NearByPairs.f (k : Nat) (a0 : ByteArray) (a1 : Int) : Option (List ByteArray × Bool) := (spec_twGood.f k a0).bind fun t315 => (if t315 = true then ((spec_l1In.f a1 0 6).bind fun t316 => (spec_NearByPairs.j0 k a0 a1 (!t316))) else (spec_NearByPairs.j0 k a0 a1 true))
theorem spec_NearByPairs.mono_l : ∀ k, (∀ y0 y1 y2, LeO (spec_NearByPairs.j0 k y0 y1 y2) (spec_NearByPairs.j0 (k + 1) y0 y1 y2)) ∧ (∀ y0 y1 y2 y3 y4 y5, LeO (spec_NearByPairs.l0 k y0 y1 y2 y3 y4 y5) (spec_NearByPairs.l0 (k + 1) y0 y1 y2 y3 y4 y5))
 | 0 => ⟨fun _ _ _ r h => by simp [spec_NearByPairs.j0] at h, fun _ _ _ _ _ _ r h => by simp [spec_NearByPairs.l0] at h⟩
 | k + 1 => by
  obtain ⟨ih0, ih1⟩ := spec_NearByPairs.mono_l k
  refine ⟨?_, ?_⟩
  ·intro y0 y1 y2
   unfold spec_NearByPairs.j0
   repeat' first
   | (with_reducible exact ih0 _ _ _)
   | (with_reducible exact ih1 _ _ _ _ _ _)
   | (with_reducible exact spec_riState.mono _ _ _)
   | (with_reducible exact spec_twFar.mono _ _)
   | (with_reducible exact spec_twGood.mono _ _)
   | (with_reducible exact LeO.refl _)
   | (with_reducible exact LeO.none _)
   | (with_reducible refine LeO.ite ?_ ?_)
   | (with_reducible refine LeO.bind ?_ (fun _ => ?_))
   | exact ih0 _ _ _
   | exact ih1 _ _ _ _ _ _
   | exact spec_riState.mono _ _ _
   | exact spec_twFar.mono _ _
   | exact spec_twGood.mono _ _
   | exact LeO.none _
   | refine LeO.ite ?_ ?_
   | refine LeO.bind ?_ (fun _ => ?_)
  ·intro y0 y1 y2 y3 y4 y5
   unfold spec_NearByPairs.l0
   repeat' first
   | (with_reducible exact ih0 _ _ _)
   | (with_reducible exact ih1 _ _ _ _ _ _)
   | (with_reducible exact spec_riState.mono _ _ _)
   | (with_reducible exact spec_twFar.mono _ _)
   | (with_reducible exact spec_twGood.mono _ _)
   | (with_reducible exact LeO.refl _)
   | (with_reducible exact LeO.none _)
   | (with_reducible refine LeO.ite ?_ ?_)
   | (with_reducible refine LeO.bind ?_ (fun _ => ?_))
   | exact ih0 _ _ _
   | exact ih1 _ _ _ _ _ _
   | exact spec_riState.mono _ _ _
   | exact spec_twFar.mono _ _
   | exact spec_twGood.mono _ _
   | exact LeO.none _
   | refine LeO.ite ?_ ?_
   | refine LeO.bind ?_ (fun _ => ?_)
theorem spec_NearByPairs.mono : ∀ a0 a1 k, LeO (spec_NearByPairs.f k a0 a1) (spec_NearByPairs.f (k + 1) a0 a1) := by
 intro a0 a1 k
 obtain ⟨ih0, ih1⟩ := spec_NearByPairs.mono_l k
 unfold spec_NearByPairs.f
 repeat' first
   | (with_reducible exact ih0 _ _ _)
   | (with_reducible exact ih1 _ _ _ _ _ _)
   | (with_reducible exact spec_riState.mono _ _ _)
   | (with_reducible exact spec_twFar.mono _ _)
   | (with_reducible exact spec_twGood.mono _ _)
   | (with_reducible exact LeO.refl _)
   | (with_reducible exact LeO.none _)
   | (with_reducible refine LeO.ite ?_ ?_)
   | (with_reducible refine LeO.bind ?_ (fun _ => ?_))
   | exact ih0 _ _ _
   | exact ih1 _ _ _ _ _ _
   | exact spec_riState.mono _ _ _
   | exact spec_twFar.mono _ _
   | exact spec_twGood.mono _ _
   | exact LeO.none _
   | refine LeO.ite ?_ ?_
   | refine LeO.bind ?_ (fun _ => ?_)
set_option maxHeartbeats 8000000 in
set_option maxRecDepth 100000 in
theorem spec_NearByPairs.calls (k : Nat) (a0 : ByteArray) (a1 : Int) (r1 : List ByteArray) (r2 : Bool) (w : World) (h : spec_NearByPairs.f k a0 a1 = some (r1, r2)) :
  Calls Tryz.prog 7 #[.string a0, .int .i64 a1] w fun e w' => ∃ v0_ : Value, e = .returned (.tuple #[v0_, .bool r2]) ∧ Kd.R Kd.string 9 w' w.heap.size (fun _ => True) v0_ r1 ∧ Below w.heap.size w w' := by
 have HB := aM (Below.refl w.heap.size w)
 have H : ((spec_twGood.f k a0).bind fun t315 => (if t315 = true then ((spec_l1In.f a1 0 6).bind fun t316 => (spec_NearByPairs.j0 k a0 a1 (!t316))) else (spec_NearByPairs.j0 k a0 a1 true))) = some (r1, r2) := h
 clear h
 have HC3 := aM H
 clear H
 go_enter Tryz.func7, Tryz.ntmps7
 go_upto_region 1 with (fail)
 go_cut [18] (fun v18 wc => ∃ (kq : Nat) (x18_2 : Bool), v18 = .bool x18_2 ∧ Aside0 (spec_NearByPairs.j0 kq a0 a1 x18_2 = some (r1, r2)) ∧ Aside0 (kq ≤ k) ∧ Aside0 (Below w.heap.size w wc))
 case first =>
  have H := HC3.out
  clear HC3
  replace H := Option.bind_eq_some_iff.mp H
  obtain ⟨t315, A40, H⟩ := H
  replace H : (if t315 = true then ((spec_l1In.f a1 0 6).bind fun t316 => (spec_NearByPairs.j0 k a0 a1 (!t316))) else (spec_NearByPairs.j0 k a0 a1 true)) = some (r1, r2) := H
  have A4 := aM A40
  clear A40
  by_cases c5 : t315 = true
  ·subst c5
   have H1 : ((spec_l1In.f a1 0 6).bind fun t316 => (spec_NearByPairs.j0 k a0 a1 (!t316))) = some (r1, r2) := by rw [if_pos rfl] at H; exact H
   clear H; have H := H1; clear H1
   replace H := Option.bind_eq_some_iff.mp H
   obtain ⟨t316, A60, H⟩ := H
   replace H : (spec_NearByPairs.j0 k a0 a1 (!t316)) = some (r1, r2) := H
   have A6 := aM A60
   clear A60
   have H' := aM H
   clear H
   go_wp2_with (first | ((with_reducible refine gate_callee (f := 30) rfl ?_); refine goesL_ (some 12) rfl rfl Tryz.func30 (by kernel_rfl) rfl #[.string a0] rfl (by (try simp only [List.map_toArray, List.map_cons, List.map_nil]); first | done | rfl | (simp only [List.length_drop, List.length_take]; rfl)) ?_; (with_reducible refine (spec_twGood.calls k a0 true _ A4.out).mono ?_); rintro e w' ⟨rfl, ⟨nd, rfl⟩⟩; refine ⟨_, rfl, ?_⟩) | (go_at_call 31; (with_reducible refine (spec_l1In.calls a1 0 6 t316 _ A6.out).mono ?_); rintro e w' ⟨rfl, ⟨nd, rfl⟩⟩))
   go_meet
   case rel => exact ⟨_, (!t316), (by first | rfl | (simp; done) | (simp [*]; done)), H', ⟨by first | omega | exact Nat.le_refl _⟩, ⟨by repeat (first | (with_reducible first | exact HB.out | apply bA | apply bN | apply bD) | exact HB.out)⟩⟩
  ·replace c5 := Bool.eq_false_iff.mpr c5
   subst c5
   have H1 : (spec_NearByPairs.j0 k a0 a1 true) = some (r1, r2) := by rw [if_neg (show ¬ (false = true) by decide)] at H; exact H
   clear H; have H := H1; clear H1
   have H' := aM H
   clear H
   go_wp2_with (first | ((with_reducible refine gate_callee (f := 30) rfl ?_); refine goesL_ (some 12) rfl rfl Tryz.func30 (by kernel_rfl) rfl #[.string a0] rfl (by (try simp only [List.map_toArray, List.map_cons, List.map_nil]); first | done | rfl | (simp only [List.length_drop, List.length_take]; rfl)) ?_; (with_reducible refine (spec_twGood.calls k a0 false _ A4.out).mono ?_); rintro e w' ⟨rfl, ⟨nd, rfl⟩⟩; refine ⟨_, rfl, ?_⟩))
   go_meet
   case rel => exact ⟨_, (true), (by first | rfl | (simp; done) | (simp [*]; done)), H', ⟨by first | omega | exact Nat.le_refl _⟩, ⟨by repeat (first | (with_reducible first | exact HB.out | apply bA | apply bN | apply bD) | exact HB.out)⟩⟩
 case rest =>
  clear HC3
  try clear p2
  try clear c3
  try clear c5
  obtain ⟨kq, x18_2, rfl, HA, HJ2, HB⟩ := hcut
  cases kq with
  | zero => exact absurd HA.out (by simp [spec_NearByPairs.j0])
  | succ kj2 =>
   have H := HA.out
   clear HA
   simp only [spec_NearByPairs.j0] at H
   by_cases c7 : x18_2 = true
   ·subst c7
    have H1 : (some (([] : List ByteArray), false)) = some (r1, r2) := by rw [if_pos rfl] at H; exact H
    clear H; have H := H1; clear H1
    simp only [Option.some.injEq, Prod.mk.injEq] at H
    obtain ⟨rfl, rfl⟩ := H
    go_wp2
    go_ret2
    exact ⟨_, by first | rfl | (simp [errW_none, errW_some] <;> rfl) | (simp [*, errW_none, errW_some] <;> rfl), by first | exact Kd.R_nil _ _ _ _ _ | exact Kd.N_nil _ _ _ _ _ | exact Kd.V_nil _ _ _ _ _ | exact Kd.Q_nil _ _ _ _ _ | exact Kd.S_nil _ _ _ _ _, by repeat (first | (with_reducible first | exact HB.out | apply bA | apply bN | apply bD) | exact HB.out)⟩
   ·replace c7 := Bool.eq_false_iff.mpr c7
    subst c7
    have H1 : ((spec_twFar.f kj2 a0).bind fun bt317 => (spec_NearByPairs.l0 kj2 a0 a1 ([] : List ByteArray) bt317.1 (bt317.1.length : Int) 0)) = some (r1, r2) := by rw [if_neg (show ¬ (false = true) by decide)] at H; exact H
    clear H; have H := H1; clear H1
    replace H := Option.bind_eq_some_iff.mp H
    obtain ⟨⟨t317, t318⟩, A80, H⟩ := H
    replace H : (spec_NearByPairs.l0 kj2 a0 a1 ([] : List ByteArray) t317 (t317.length : Int) 0) = some (r1, r2) := H
    have A8 := aM A80
    clear A80
    have H' := aM H
    clear H
    go_wp2_with (first | ((with_reducible refine gate_callee (f := 32) rfl ?_); refine goesL_ (some 21) rfl rfl Tryz.func32 (by kernel_rfl) rfl #[.string a0] rfl (by (try simp only [List.map_toArray, List.map_cons, List.map_nil]); first | done | rfl | (simp only [List.length_drop, List.length_take]; rfl)) ?_; (with_reducible refine (spec_twFar.calls kj2 a0 t317 t318 _ A8.out).mono ?_); rintro e w9 ⟨v319, v321, rfl, ho0, ho1, hb⟩; refine ⟨_, rfl, ?_⟩; have n0_ := aM (Kd.R_lower ho0 (below_size (by repeat (first | (with_reducible first | exact HB.out | apply bA | apply bN | apply bD) | exact HB.out)))); have n1_ := aM (Kd.R_lower ho1 (below_size (by repeat (first | (with_reducible first | exact HB.out | apply bA | apply bN | apply bD) | exact HB.out)))); have n2_ := aM (below_step (by repeat (first | (with_reducible first | exact HB.out | apply bA | apply bN | apply bD) | exact HB.out)) hb); clear HB; have HO320 := n0_; have HO322 := n1_; have HB := n2_; clear n0_ n1_ n2_; (try clear hb); (try clear hb2); (try clear hk); (try clear hi); (try clear ho0); (try clear ho1); obtain ⟨Ao10, co10, eo10⟩ := Kd.R_slice HO320.out; subst eo10))
    go_loopg [8, 26] kj2 (fun kq v8 v26 w' => ∃ (x8_2 : List ByteArray) (x26_2 : Int), v26 = .int .i64 x26_2 ∧ Aside0 (spec_NearByPairs.l0 kq a0 a1 x8_2 t317 (t317.length : Int) x26_2 = some (r1, r2)) ∧ Aside0 (kq ≤ kj2) ∧ Aside0 (Kd.R Kd.string 9 w' w.heap.size (fun _ => True) v8 x8_2) ∧ Aside0 (Kd.R (Kd.int .i64) 3 w' w.heap.size (fun _ => True) (.slice Ao10 t317.length co10) t317) ∧ Aside0 (Below w.heap.size w w'))
    case atStart => exact ⟨(([] : List ByteArray)), (0), (by first | rfl | (simp; done) | (simp [*]; done)), H', ⟨Nat.le_refl _⟩, ⟨by first | exact Kd.R_nil _ _ _ _ _ | exact Kd.N_nil _ _ _ _ _ | exact Kd.V_nil _ _ _ _ _ | exact Kd.Q_nil _ _ _ _ _ | exact Kd.S_nil _ _ _ _ _⟩, ⟨by (with_reducible repeat (first | apply rA | apply rN | apply rD)); exact Kd.R_mono HO320.out (fun _ hk => trivial)⟩, ⟨by repeat (first | (with_reducible first | exact HB.out | apply bA | apply bN | apply bD) | exact HB.out)⟩⟩
    case round =>
     clear H'
     try clear p2
     try clear c3
     try clear c5
     try clear c7
     try clear p2
     obtain ⟨x8_2, x26_2, rfl, HA, HK2, HO_8, HO_24, HB⟩ := hrel
     cases gk with
     | zero => exact absurd HA.out (by simp [spec_NearByPairs.l0])
     | succ k2 =>
      have H := HA.out
      clear HA
      simp only [spec_NearByPairs.l0] at H
      by_cases c11 : x26_2 < (t317.length : Int)
      ·rw [if_pos c11] at H
       have c11b0 : decide (x26_2 < (t317.length : Int)) = true := decide_eq_true c11
       clear c11
       by_cases c12 : 0 ≤ x26_2
       ·rw [if_pos c12] at H
        have c12b0 : decide (0 ≤ x26_2) = true := decide_eq_true c12
        clear c12
        by_cases c13 : x26_2 < (t317.length : Int)
        ·rw [if_pos c13] at H
         have c13b0 : decide (x26_2 < (t317.length : Int)) = true := decide_eq_true c13
         clear c13
         by_cases c14 : (rd t317 x26_2) ≤ a1
         ·rw [if_pos c14] at H
          have c14b0 : decide ((rd t317 x26_2) ≤ a1) = true := decide_eq_true c14
          clear c14
          replace H := Option.bind_eq_some_iff.mp H
          obtain ⟨t324, A150, H⟩ := H
          replace H : (if x8_2.length < 8796093022208 then (spec_NearByPairs.l0 k2 a0 a1 (x8_2 ++ [t324]) t317 (t317.length : Int) (wrap64 (x26_2 + 1))) else (none)) = some (r1, r2) := H
          have A15 := aM A150
          clear A150
          by_cases c16 : x8_2.length < 8796093022208
          ·rw [if_pos c16] at H
           have LMc16 := aM c16
           clear c16
           obtain ⟨y325, hy325⟩ : ∃ y_ : List ByteArray, y_ = (x8_2 ++ [t324]) := ⟨_, rfl⟩
           replace H : (spec_NearByPairs.l0 k2 a0 a1 y325 t317 (t317.length : Int) (wrap64 (x26_2 + 1))) = some (r1, r2) := by first | (rw [hy325]; with_reducible exact H) | (have H2_ := (Option.bind_some _ _).symm.trans H; rw [hy325]; with_reducible exact H2_) | (have H2_ := (Option.bind_some _ _).symm.trans H; with_reducible exact H2_) | with_reducible exact H | (rw [hy325]; exact H) | exact H
           have Ny325 := aM hy325
           clear hy325
           have H' := aM H
           clear H
           have p323 : 0 ≤ (x26_2 : Int) := of_decide_eq_true (by first | (with_reducible assumption) | assumption)
           have q323 : x26_2 < (t317.length : Int) := of_decide_eq_true (by first | (with_reducible assumption) | assumption)
           obtain ⟨ad323, e323, hx323_0⟩ := Kd.at_int (Kd.R_reads' HO_24.out).2.2 x26_2 p323 q323
           cases e323
           replace p323 := eq_true p323
           replace q323 := eq_true q323
           go_wp2_with (first | ((with_reducible refine gate_callee (f := 33) rfl ?_); refine goesL_ (some 38) rfl rfl Tryz.func33 (by kernel_rfl) rfl #[.int .i64 (a0.size : Int), .int .i64 x26_2] rfl (by (try simp only [List.map_toArray, List.map_cons, List.map_nil]); first | done | rfl | (simp only [List.length_drop, List.length_take]; rfl)) ?_; (with_reducible refine (spec_riState.calls k2 (a0.size : Int) x26_2 t324 _ A15.out).mono ?_); rintro e w' ⟨rfl, ⟨nd, rfl⟩⟩; refine ⟨_, rfl, ?_⟩) | ((with_reducible refine gate_builtin (b := .append) (xs := #[.tmp 34, .tmp 39]) rfl ?_); at_builtin; refine Kd.R_append Kd.string (w0 := w) w.heap.size rfl (.tmp 34) (.tmp 39) 26 9 (.string ⟨#[]⟩) 16 rfl Tryz.underlying26 info9 rfl (by decide) (by omega) u8 x8_2 t324 [.string t324] (fun _ => True) (fun _ => False) rfl rfl ?aP (fun _ hk => hk.elim) ?aF ?aO ?aB ?aS ?aL ?_; (case aP => exact rfl); (case aB => exact (by repeat (first | (with_reducible first | exact HB.out | apply bA | apply bN | apply bD) | exact HB.out))); (case aF => exact (fun _ _ => trivial)); (case aO => exact (by (with_reducible repeat (first | apply rA | apply rN | apply rD)); exact HO_8.out)); (case aS => exact (below_size (by repeat (first | (with_reducible first | exact HB.out | apply bA | apply bN | apply bD) | exact HB.out)))); (case aL => have := LMc16.out; omega); intro v326 w17 ho hb hg hat; rw [← Ny325.out] at ho; have n0_ := aM (Kd.R_over' (by (with_reducible repeat (first | apply rA | apply rN | apply rD)); exact HO_24.out) (Kd.R_typed (by (with_reducible repeat (first | apply rA | apply rN | apply rD)); exact HO_8.out)) (by decide) hg); have n1_ := aM (hb); have n2_ := aM (ho); clear HO_24; clear HB; clear HO_8; have HO_24 := n0_; have HB := n1_; have HO327 := n2_; clear n0_ n1_ n2_; clear ho hb hg hat))
           go_roundg k2
           case measure => have := HJ2.out; have := HK2.out; omega
           case rel => exact ⟨(y325), (wrap64 (x26_2 + 1)), (by first | rfl | (simp; done) | (simp [*]; done)), H', ⟨by have := HJ2.out; have := HK2.out; omega⟩, ⟨by (with_reducible repeat (first | apply rA | apply rN | apply rD)); exact HO327.out⟩, ⟨by (with_reducible repeat (first | apply rA | apply rN | apply rD)); exact HO_24.out⟩, ⟨by repeat (first | (with_reducible first | exact HB.out | apply bA | apply bN | apply bD) | exact HB.out)⟩⟩
          ·rw [if_neg c16] at H
           exact absurd H (by simp)
         ·rw [if_neg c14] at H
          have c14b0 : decide ((rd t317 x26_2) ≤ a1) = false := decide_eq_false c14
          clear c14
          have H' := aM H
          clear H
          have p323 : 0 ≤ (x26_2 : Int) := of_decide_eq_true (by first | (with_reducible assumption) | assumption)
          have q323 : x26_2 < (t317.length : Int) := of_decide_eq_true (by first | (with_reducible assumption) | assumption)
          obtain ⟨ad323, e323, hx323_0⟩ := Kd.at_int (Kd.R_reads' HO_24.out).2.2 x26_2 p323 q323
          cases e323
          replace p323 := eq_true p323
          replace q323 := eq_true q323
          go_wp2
          go_roundg k2
          case measure => have := HJ2.out; have := HK2.out; omega
          case rel => exact ⟨(x8_2), (wrap64 (x26_2 + 1)), (by first | rfl | (simp; done) | (simp [*]; done)), H', ⟨by have := HJ2.out; have := HK2.out; omega⟩, ⟨by (with_reducible repeat (first | apply rA | apply rN | apply rD)); exact HO_8.out⟩, ⟨by (with_reducible repeat (first | apply rA | apply rN | apply rD)); exact HO_24.out⟩, ⟨by repeat (first | (with_reducible first | exact HB.out | apply bA | apply bN | apply bD) | exact HB.out)⟩⟩
        ·rw [if_neg c13] at H
         exact absurd H (by simp)
       ·rw [if_neg c12] at H
        exact absurd H (by simp)
      ·rw [if_neg c11] at H
       have c11b0 : decide (x26_2 < (t317.length : Int)) = false := decide_eq_false c11
       clear c11
       simp only [Option.some.injEq, Prod.mk.injEq] at H
       obtain ⟨rfl, rfl⟩ := H
       go_wp2
       go_ret2
       exact ⟨_, by first | rfl | (simp [errW_none, errW_some] <;> rfl) | (simp [*, errW_none, errW_some] <;> rfl), by (with_reducible repeat (first | apply rA | apply rN | apply rD)); exact HO_8.out, by repeat (first | (with_reducible first | exact HB.out | apply bA | apply bN | apply bD) | exact HB.out)⟩

/-! ### slices_Max_int_int: function 34 -/
def slices_Max_int_int.l0 : Nat → List Int → Int → Int → Option (Int)
 | 0, _, _, _ => none
 | k + 1, x0, x3, x4 => if x4 < (x0.length : Int) then (if 0 ≤ x4 then (slices_Max_int_int.l0 k x0 (mx x3 (rd x0 x4)) (wrap64 (x4 + 1))) else (none)) else (some x3)
def slices_Max_int_int.f (k : Nat) (l0 : List Int) : Option (Int) := if (l0.length : Int) < 1 then (none) else (if 0 < (l0.length : Int) then (slices_Max_int_int.l0 k l0 (rd l0 0) 1) else (none))
theorem slices_Max_int_int.mono_l : ∀ k, (∀ y0 y1 y2, LeO (slices_Max_int_int.l0 k y0 y1 y2) (slices_Max_int_int.l0 (k + 1) y0 y1 y2))
 | 0 => fun _ _ _ r h => by simp [slices_Max_int_int.l0] at h
 | k + 1 => by
  have ih0 := slices_Max_int_int.mono_l k
  ·intro y0 y1 y2
   unfold slices_Max_int_int.l0
   repeat' first
   | (with_reducible exact ih0 _ _ _)
   | (with_reducible exact LeO.refl _)
   | (with_reducible exact LeO.none _)
   | (with_reducible refine LeO.ite ?_ ?_)
   | (with_reducible refine LeO.bind ?_ (fun _ => ?_))
   | exact ih0 _ _ _
   | exact LeO.none _
   | refine LeO.ite ?_ ?_
   | refine LeO.bind ?_ (fun _ => ?_)
theorem slices_Max_int_int.mono : ∀ a0 k, LeO (slices_Max_int_int.f k a0) (slices_Max_int_int.f (k + 1) a0) := by
 intro a0 k
 have ih0 := slices_Max_int_int.mono_l k
 unfold slices_Max_int_int.f
 repeat' first
   | (with_reducible exact ih0 _ _ _)
   | (with_reducible exact LeO.refl _)
   | (with_reducible exact LeO.none _)
   | (with_reducible refine LeO.ite ?_ ?_)
   | (with_reducible refine LeO.bind ?_ (fun _ => ?_))
   | exact ih0 _ _ _
   | exact LeO.none _
   | refine LeO.ite ?_ ?_
   | refine LeO.bind ?_ (fun _ => ?_)
set_option maxHeartbeats 8000000 in
set_option maxRecDepth 100000 in
theorem slices_Max_int_int.calls (k : Nat) (A0 : Option Addr) (c0 : Nat) (l0 : List Int) (r : Int) (w : World) (hr0 : Kd.C (Kd.int .i64) w A0 l0.length l0) (hc0 : l0.length ≤ c0) (h : slices_Max_int_int.f k l0 = some r) :
  Calls Tryz.prog 34 #[.slice A0 l0.length c0] w fun e w' => e = .returned (.int .i64 r) ∧ Below w.heap.size w w' := by
 have HR0 := aM hr0
 have HC0 := aM hc0
 clear hr0 hc0
 have HB := aM (Below.refl w.heap.size w)
 have H : (if (l0.length : Int) < 1 then (none) else (if 0 < (l0.length : Int) then (slices_Max_int_int.l0 k l0 (rd l0 0) 1) else (none))) = some r := h
 clear h
 by_cases c2 : (l0.length : Int) < 1
 ·rw [if_pos c2] at H
  exact absurd H (by simp)
 ·rw [if_neg c2] at H
  have c2b0 : decide ((l0.length : Int) < 1) = false := decide_eq_false c2
  have c2b1 : decide (l0.length < 1) = false := decide_eq_false (by omega)
  clear c2
  by_cases c3 : 0 < (l0.length : Int)
  ·rw [if_pos c3] at H
   have c3b0 : decide (0 < (l0.length : Int)) = true := decide_eq_true c3
   have c3b1 : decide (0 < l0.length) = true := decide_eq_true (by omega)
   clear c3
   have H' := aM H
   clear H
   have p328 : 0 ≤ (0 : Int) := (by omega)
   have q328 : 0 < (l0.length : Int) := of_decide_eq_true (by first | (with_reducible assumption) | assumption)
   obtain ⟨ad328, e328, hx328_0⟩ := Kd.at_int HR0.out 0 p328 q328
   cases e328
   have qi328 : (0 < l0.length) = True := eq_true (by omega)
   (try rw [show ((0 : Int)).toNat = 0 from rfl] at hx328_0)
   (try rw [Addr.add_zero'] at hx328_0)
   replace p328 := eq_true p328
   replace q328 := eq_true q328
   go_enter Tryz.func34, Tryz.ntmps34
   go_wp2
   go_loopg [3, 4] k (fun kq v3 v4 w' => ∃ (x3_1 : Int) (x4_1 : Int), v3 = .int .i64 x3_1 ∧ v4 = .int .i64 x4_1 ∧ Aside0 (slices_Max_int_int.l0 kq l0 x3_1 x4_1 = some r) ∧ Aside0 (kq ≤ k) ∧ Aside0 (Below w.heap.size w w'))
   case atStart => exact ⟨(rd l0 0), (1), (by first | rfl | (simp; done) | (simp [*]; done)), (by first | rfl | (simp; done) | (simp [*]; done)), H', ⟨Nat.le_refl _⟩, ⟨by repeat (first | (with_reducible first | exact HB.out | apply bA | apply bN | apply bD) | exact HB.out)⟩⟩
   case round =>
    clear H'
    try clear c2
    try clear c2b0
    try clear c2b1
    try clear p2
    try clear c3
    try clear c3b0
    try clear c3b1
    try clear p3
    try clear q3
    try clear hx3
    try clear qi3
    try clear hx328_0
    try clear p328
    try clear q328
    obtain ⟨x3_1, x4_1, rfl, rfl, HA, HK1, HB⟩ := hrel
    cases gk with
    | zero => exact absurd HA.out (by simp [slices_Max_int_int.l0])
    | succ k1 =>
     have H := HA.out
     clear HA
     simp only [slices_Max_int_int.l0] at H
     by_cases c4 : x4_1 < (l0.length : Int)
     ·rw [if_pos c4] at H
      have c4b0 : decide (x4_1 < (l0.length : Int)) = true := decide_eq_true c4
      clear c4
      by_cases c5 : 0 ≤ x4_1
      ·rw [if_pos c5] at H
       have c5b0 : decide (0 ≤ x4_1) = true := decide_eq_true c5
       clear c5
       obtain ⟨ji6, hji6⟩ : ∃ j_ : Int, (mx x3_1 (rd l0 x4_1)) = j_ := ⟨_, rfl⟩
       replace H : (slices_Max_int_int.l0 k1 l0 ji6 (wrap64 (x4_1 + 1))) = some r := by first | (rw [hji6] at H; exact H) | (simp only [hji6] at H ⊢; exact H)
       have hji6_ : (if x3_1 < (rd l0 x4_1) then (rd l0 x4_1) else x3_1) = ji6 := hji6
       have H' := aM H
       clear H
       have p329 : 0 ≤ (x4_1 : Int) := of_decide_eq_true (by first | (with_reducible assumption) | assumption)
       have q329 : x4_1 < (l0.length : Int) := of_decide_eq_true (by first | (with_reducible assumption) | assumption)
       obtain ⟨ad329, e329, hx329_0⟩ := Kd.at_int HR0.out x4_1 p329 q329
       obtain rfl : ad328 = ad329 := (by injection e329)
       replace hx329_0 := (HB.out.cell (World.block_lt_of_cell? w _ hx329_0)).trans hx329_0
       replace p329 := eq_true p329
       replace q329 := eq_true q329
       go_wp2
       go_roundg k1
       case measure => have := HK1.out; omega
       case rel => exact ⟨(ji6), (wrap64 (x4_1 + 1)), (by first | rfl | (simp; done) | (simp only [← hji6] <;> (first | rfl | simp)) | (simp [*]; done)), (by first | rfl | (simp; done) | (simp [*]; done)), H', ⟨by have := HK1.out; omega⟩, ⟨by repeat (first | (with_reducible first | exact HB.out | apply bA | apply bN | apply bD) | exact HB.out)⟩⟩
      ·rw [if_neg c5] at H
       exact absurd H (by simp)
     ·rw [if_neg c4] at H
      have c4b0 : decide (x4_1 < (l0.length : Int)) = false := decide_eq_false c4
      clear c4
      obtain rfl := Option.some.inj H
      go_wp2
      go_ret
      exact ⟨by first | rfl | (simp [errW_none, errW_some] <;> rfl) | (simp [*, errW_none, errW_some] <;> rfl), by repeat (first | (with_reducible first | exact HB.out | apply bA | apply bN | apply bD) | exact HB.out)⟩
  ·rw [if_neg c3] at H
   exact absurd H (by simp)

/-! ### impl_FarthestByPairs: function 8 (told by hand) -/
/-- The function value of impl.FarthestByPairs: whether the state with a number is the farthest. -/
def impl_FarthestByPairs.take (l : List Int) (x1 : Int) (k : Nat) (n : Int) : Option Bool := if 0 ≤ n then (if n < (l.length : Int) then some (rd l n == x1) else none) else none
set_option maxHeartbeats 4000000 in
set_option maxRecDepth 100000 in
theorem impl_FarthestByPairs.take_calls (l : List Int) (x1 : Int) (k : Nat) (n : Int) (b : Bool) (W : World) (P1 P2 : Nat) (A : Option Addr) (c : Nat) (h1 : W.cell? ⟨P1, 0, none⟩ = some (.slice A l.length c)) (h2 : W.cell? ⟨P2, 0, none⟩ = some (.int .i64 x1))
  (hC : Kd.C (Kd.int .i64) W A l.length l) (h : impl_FarthestByPairs.take l x1 k n = some b) :
  Calls Tryz.prog 35 #[.int .i64 n, .pointer (some ⟨P1, 0, none⟩), .pointer (some ⟨P2, 0, none⟩)] W fun e w' => e = .returned (.bool b) ∧ Below W.heap.size W w' := by
 unfold impl_FarthestByPairs.take at h
 by_cases c1 : 0 ≤ n
 ·rw [if_pos c1] at h
  by_cases c2 : n < (l.length : Int)
  ·rw [if_pos c2] at h
   obtain rfl := Option.some.inj h
   obtain ⟨ad, e1, hx⟩ := Kd.at_int hC n c1 c2
   cases e1
   have c1b := decide_eq_true c1
   have c2b := decide_eq_true c2
   replace c1 := eq_true c1
   replace c2 := eq_true c2
   clear h hC
   go_enter Tryz.func35, Tryz.ntmps35
   go_wp2
   go_quiet (fail)
   go_wp2
   go_ret
   exact ⟨rfl, pw_below_drewN (Below.refl _ _) _⟩
  ·rw [if_neg c2] at h; exact absurd h (by simp)
 ·rw [if_neg c1] at h; exact absurd h (by simp)
theorem impl_FarthestByPairs.take_mono (l : List Int) (x1 : Int) : ∀ n k, LeO (impl_FarthestByPairs.take l x1 k n) (impl_FarthestByPairs.take l x1 (k + 1) n) := fun n k => LeO.refl _
def impl_FarthestByPairs.f (k : Nat) (a0 : ByteArray) : Option (List ByteArray × Int × Bool) := (impl_isPaired.f a0).bind fun b1 => if b1 = true then ((impl_search.f k a0).bind fun t => (slices_Max_int_int.f k t.1).bind fun m => (impl_withNumbers.f (impl_FarthestByPairs.take t.1 m) k (a0.size : Int)).bind fun r => some (r, m, true)) else some ([], 0, false)
theorem impl_FarthestByPairs.mono : ∀ a0 k, LeO (impl_FarthestByPairs.f k a0) (impl_FarthestByPairs.f (k + 1) a0) := by
 intro a0 k
 unfold impl_FarthestByPairs.f
 refine LeO.bind (LeO.refl _) (fun b1 => LeO.ite ?_ (LeO.refl _))
 exact LeO.bind (impl_search.mono _ _) (fun t => LeO.bind (slices_Max_int_int.mono _ _) (fun m => LeO.bind (impl_withNumbers.mono (impl_FarthestByPairs.take_mono t.1 m) _ _) (fun _ => LeO.refl _)))
set_option maxHeartbeats 8000000 in
set_option maxRecDepth 100000 in
theorem impl_FarthestByPairs.calls (k : Nat) (a0 : ByteArray) (r1 : List ByteArray) (r2 : Int) (r3 : Bool) (w : World) (h : impl_FarthestByPairs.f k a0 = some (r1, r2, r3)) :
  Calls Tryz.prog 8 #[.string a0] w fun e w' => ∃ v0_ : Value, e = .returned (.tuple #[v0_, .int .i64 r2, .bool r3]) ∧ Kd.R Kd.string 9 w' w.heap.size (fun _ => True) v0_ r1 ∧ Below w.heap.size w w' := by
 have hmf : ∀ (fn : Fn) (first cap : Array Value) (w : World), (Instr.makeFunc fn first cap).run Tryz.prog w = .ok (.func fn first cap) w := fun _ _ _ _ => rfl
 unfold impl_FarthestByPairs.f at h
 obtain ⟨b1, A1, h⟩ := Option.bind_eq_some_iff.mp h
 replace A1 := aM A1
 cases b1 with
 | false =>
  simp only [Bool.false_eq_true, if_false, Option.some.injEq, Prod.mk.injEq] at h
  obtain ⟨rfl, rfl, rfl⟩ := h
  go_enter Tryz.func8, Tryz.ntmps8
  go_wp2_with (first | (go_at_call 25; (with_reducible refine (impl_isPaired.calls a0 false _ A1.out).mono ?_); rintro e w1 ⟨rfl, hb⟩; have HB := aM hb; clear hb))
  go_ret3
  exact ⟨_, rfl, Kd.R_nil _ _ _ _ _, HB.out⟩
 | true =>
  simp only [if_true] at h
  obtain ⟨⟨l1, l2, l3⟩, A3, h⟩ := Option.bind_eq_some_iff.mp h
  obtain ⟨m, A5, h⟩ := Option.bind_eq_some_iff.mp h
  obtain ⟨q, A4, h⟩ := Option.bind_eq_some_iff.mp h
  simp only [Option.some.injEq, Prod.mk.injEq] at h
  obtain ⟨rfl, rfl, rfl⟩ := h
  replace A3 := aM A3
  replace A4 := aM A4
  replace A5 := aM A5
  go_enter Tryz.func8, Tryz.ntmps8
  go_wp2_with (first | (go_at_call 25; (with_reducible refine (impl_isPaired.calls a0 true _ A1.out).mono ?_); rintro e w1 ⟨rfl, hb⟩; have HB := aM hb; clear hb) | (go_at_call 27; (with_reducible refine (impl_search.calls k a0 l1 l2 l3 _ A3.out).mono ?_); rintro e w3 ⟨v0, v1, v2, rfl, ho0, ho1, ho2, hb⟩; have HB3 : Aside0 (Below w.heap.size w w3) := ⟨below_step (by repeat (first | exact HB.out | apply bA | apply bN | apply bD)) hb⟩; obtain ⟨Ao, co, eo⟩ := Kd.R_slice ho0; subst eo; have HC : Aside0 (Kd.C (Kd.int .i64) w3 Ao l1.length l1) := ⟨(Kd.R_reads' ho0).2.2⟩; have HCc : Aside0 (l1.length ≤ co) := ⟨(Kd.R_reads' ho0).2.1⟩; clear ho0 ho1 ho2 hb))
  have hw4 : (w3.alloc (.cells #[.slice Ao l1.length co] 48)).cell? ⟨w3.heap.size, 0, none⟩ = some (.slice Ao l1.length co) := by
   rw [World.cell?_alloc_at _ _ _ _ rfl]; rfl
  have hC4 : Kd.C (Kd.int .i64) (w3.alloc (.cells #[.slice Ao l1.length co] 48)) Ao l1.length l1 := Kd.C_alloc HC.out _
  have hsz : (w3.alloc (.cells #[.slice Ao l1.length co] 48)).heap.size = w3.heap.size + 1 := by simp
  have hb4 : Below w.heap.size w (w3.alloc (.cells #[.slice Ao l1.length co] 48)) := below_alloc HB3.out _
  generalize w3.alloc (.cells #[.slice Ao l1.length co] 48) = w4 at hw4 hC4 hsz hb4 ⊢
  refine (slices_Max_int_int.calls k Ao co l1 m w4 hC4 HCc.out A5.out).mono ?_
  rintro e w5 ⟨rfl, hbm⟩
  have hs5 := hbm.size
  have hw6 : (w5.alloc (.cells #[.int .i64 m] 3)).cell? ⟨w3.heap.size, 0, none⟩ = some (.slice Ao l1.length co) := by
   rw [World.cell?_alloc_lt _ _ _ (by show w3.heap.size < w5.heap.size; omega)]
   exact (hbm.cell (p := ⟨w3.heap.size, 0, none⟩) (by show w3.heap.size < w4.heap.size; omega)).trans hw4
  have hw6b : (w5.alloc (.cells #[.int .i64 m] 3)).cell? ⟨w5.heap.size, 0, none⟩ = some (.int .i64 m) := by
   rw [World.cell?_alloc_at _ _ _ _ rfl]; rfl
  have hC6 : Kd.C (Kd.int .i64) (w5.alloc (.cells #[.int .i64 m] 3)) Ao l1.length l1 := Kd.C_alloc (Kd.C_below hC4 hbm) _
  have hsz6 : (w5.alloc (.cells #[.int .i64 m] 3)).heap.size = w5.heap.size + 1 := by simp
  have hb6 : Below w.heap.size w (w5.alloc (.cells #[.int .i64 m] 3)) := below_alloc (below_step hb4 hbm) _
  have hlt3 : Aside0 (w3.heap.size < w5.heap.size) := ⟨by omega⟩
  have HW6 := aM hw6
  have HC6 := aM hC6
  have HZ6 := aM hsz6
  have HB6 := aM hb6
  clear hw4 hC4 hsz hb4 hbm hs5 hw6 hC6 hsz6 hb6
  go_wp2
  generalize w5.alloc (.cells #[.int .i64 m] 3) = w6 at HW6 hw6b HC6 HZ6 HB6 ⊢
  have hcall : ∀ W : World, Below w6.heap.size w6 W → Calls Tryz.prog 28 #[.int .i64 (a0.size : Int), .func (.func 35) #[] #[.pointer (some ⟨w3.heap.size, 0, none⟩), .pointer (some ⟨w5.heap.size, 0, none⟩)]] W fun e w7 => ∃ v7 : Value, e = .returned v7 ∧ Kd.R Kd.string 9 w7 w.heap.size (fun _ => True) v7 q ∧ Below w.heap.size w w7 ∧ w7.cell? ⟨w5.heap.size, 0, none⟩ = some (.int .i64 m) := by
   intro W hW
   have h1 := HZ6.out
   have h2 := hlt3.out
   have h3 := hW.size
   have p3 : W.cell? ⟨w3.heap.size, 0, none⟩ = some (.slice Ao l1.length co) := (hW.cell (p := ⟨w3.heap.size, 0, none⟩) (by show w3.heap.size < w6.heap.size; omega)).trans HW6.out
   have p5 : W.cell? ⟨w5.heap.size, 0, none⟩ = some (.int .i64 m) := (hW.cell (p := ⟨w5.heap.size, 0, none⟩) (by show w5.heap.size < w6.heap.size; omega)).trans hw6b
   refine (impl_withNumbers.calls 35 #[.pointer (some ⟨w3.heap.size, 0, none⟩), .pointer (some ⟨w5.heap.size, 0, none⟩)] (Go.Proofs.enters_of Tryz.func35 (by kernel_rfl) rfl) (impl_FarthestByPairs.take l1 m) k (a0.size : Int) q W
    (fun j n b W' hb' hj => impl_FarthestByPairs.take_calls l1 m j n b W' w3.heap.size w5.heap.size Ao co ((hb'.cell (p := ⟨w3.heap.size, 0, none⟩) (by show w3.heap.size < W.heap.size; omega)).trans p3) ((hb'.cell (p := ⟨w5.heap.size, 0, none⟩) (by show w5.heap.size < W.heap.size; omega)).trans p5) (Kd.C_below (Kd.C_below HC6.out hW) hb') hj) A4.out).mono ?_
   rintro e w7 ⟨v7, rfl, ho7, hb7⟩
   have hbW : Below w.heap.size w W := below_step HB6.out hW
   exact ⟨v7, rfl, Kd.R_lower ho7 hbW.size, below_step hbW hb7, (hb7.cell (p := ⟨w5.heap.size, 0, none⟩) (by show w5.heap.size < W.heap.size; omega)).trans p5⟩
  have HCALL := aM hcall
  clear hcall HC6 HZ6 hlt3 A4
  go_region_with (first | (go_at_call 28; refine (HCALL.out _ (by repeat (first | exact Below.refl _ _ | apply pw_below_drewN | apply below_drew1))).mono ?_; rintro e w7 ⟨v7, rfl, ho7, hb7, hm7⟩; have HO7 := aM ho7; have HB7 := aM hb7; clear ho7 hb7))
  all_goals (try go_wp2)
  all_goals go_ret3
  all_goals exact ⟨_, rfl, by (with_reducible repeat (first | apply rA | apply rN | apply rD)); exact HO7.out, by repeat (first | exact HB7.out | apply bA | apply bN | apply bD)⟩

/-! ### spec_l1Most: function 36 -/
def spec_l1Most.f (a0 : Int) (a1 : Int) : Option (Int) := if a0 > a1 then (some a0) else (some a1)
set_option maxHeartbeats 8000000 in
set_option maxRecDepth 100000 in
theorem spec_l1Most.calls (a0 : Int) (a1 : Int) (r : Int) (w : World) (h : spec_l1Most.f a0 a1 = some r) :
  Calls Tryz.prog 36 #[.int .i64 a0, .int .i64 a1] w fun e w' => e = .returned (.int .i64 r) ∧ Drawn0 w w' := by
 have H : (if a0 > a1 then (some a0) else (some a1)) = some r := h
 clear h
 by_cases c3 : a0 > a1
 ·rw [if_pos c3] at H
  have c3b0 : decide (a1 < a0) = true := decide_eq_true c3
  clear c3
  obtain rfl := Option.some.inj H
  go_enter Tryz.func36, Tryz.ntmps36
  go_wp2
  go_ret
  exact ⟨by first | rfl | (simp; done) | (simp [*]; done), by repeat (first | exact Drawn0.refl _ | apply Drawn0.step)⟩
 ·rw [if_neg c3] at H
  have c3b0 : decide (a1 < a0) = false := decide_eq_false c3
  clear c3
  obtain rfl := Option.some.inj H
  go_enter Tryz.func36, Tryz.ntmps36
  go_wp2
  go_ret
  exact ⟨by first | rfl | (simp; done) | (simp [*]; done), by repeat (first | exact Drawn0.refl _ | apply Drawn0.step)⟩

end Go.Proofs.YtgfjgpnaalblbaaGreatDoor.PN
