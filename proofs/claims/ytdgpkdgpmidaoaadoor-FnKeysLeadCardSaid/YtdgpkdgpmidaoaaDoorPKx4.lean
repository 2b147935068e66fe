-- written by a program of this session's (wip/tools), over the kit's print
import Derived.Test.YtdgpkdgpmidaoaaDoorPKx0
import Derived.Test.YtdgpkdgpmidaoaaDoorPKx3
-- squeezed
-- squeezed twice
namespace Go.Proofs.YtdgpkdgpmidaoaaDoor.PK
open Go.RowKit Go.Proofs.YtdgpkdgpmidaoaaDoorW.PrintWords Go.Proofs.YtdgpkdgpmidaoaaDoorW.PrintLast Go.Proofs.YtdgpkdgpmidaoaaDoorW.PrintMore
attribute [local go_sem] max2_int min2_int max_two min_two max_three min_three max_four min_four   -- for this text's walks alone
set_option linter.unusedVariables false
set_option linter.unusedSimpArgs false

/-! ### impl_meets: function 39 -/
def impl_meets.l0 : Nat → ByteArray → ByteArray → Int → Int → Option (Bool)
 | 0, _, _, _, _ => none
 | k + 1, x0, x1, x7, x8 => if x8 < x7 then (if 0 ≤ x8 then (if x8 < (x0.size : Int) then (if (bt x0 x8) = 63 then (impl_meets.l0 k x0 x1 x7 (wrap64 (x8 + 1))) else (if x8 < (x1.size : Int) then (if (bt x0 x8) = (bt x1 x8) then (impl_meets.l0 k x0 x1 x7 (wrap64 (x8 + 1))) else (some false)) else (none))) else (none)) else (none)) else (some true)
def impl_meets.f (k : Nat) (a0 : ByteArray) (a1 : ByteArray) : Option (Bool) := impl_meets.l0 k a0 a1 (a0.size : Int) 0
theorem impl_meets.mono_l : ∀ k, (∀ y0 y1 y2 y3, LeO (impl_meets.l0 k y0 y1 y2 y3) (impl_meets.l0 (k + 1) y0 y1 y2 y3))
 | 0 => fun _ _ _ _ r h => by simp [impl_meets.l0] at h
 | k + 1 => by
  have ih0 := impl_meets.mono_l k
  ·intro y0 y1 y2 y3
   unfold impl_meets.l0
   repeat' first
   | (with_reducible exact ih0 _ _ _ _)
   | (with_reducible exact LeO.refl _)
   | (with_reducible exact LeO.none _)
   | (with_reducible refine LeO.ite ?_ ?_)
   | (with_reducible refine LeO.bind ?_ (fun _ => ?_))
   | exact ih0 _ _ _ _
   | exact LeO.none _
   | refine LeO.ite ?_ ?_
   | refine LeO.bind ?_ (fun _ => ?_)
theorem impl_meets.mono : ∀ a0 a1 k, LeO (impl_meets.f k a0 a1) (impl_meets.f (k + 1) a0 a1) := by
 intro a0 a1 k
 have ih0 := impl_meets.mono_l k
 unfold impl_meets.f
 repeat' first
   | (with_reducible exact ih0 _ _ _ _)
   | (with_reducible exact LeO.refl _)
   | (with_reducible exact LeO.none _)
   | (with_reducible refine LeO.ite ?_ ?_)
   | (with_reducible refine LeO.bind ?_ (fun _ => ?_))
   | exact ih0 _ _ _ _
   | exact LeO.none _
   | refine LeO.ite ?_ ?_
   | refine LeO.bind ?_ (fun _ => ?_)
set_option maxHeartbeats 8000000 in
set_option maxRecDepth 100000 in
theorem impl_meets.calls (k : Nat) (a0 : ByteArray) (a1 : ByteArray) (r : Bool) (w : World) (h : impl_meets.f k a0 a1 = some r) :
  Calls Tryd.prog 39 #[.string a0, .string a1] w fun e w' => e = .returned (.bool r) ∧ Drawn0 w w' := by
 have H : (impl_meets.l0 k a0 a1 (a0.size : Int) 0) = some r := h
 clear h
 have H' := aM H
 clear H
 go_enter Tryd.func39, Tryd.ntmps39
 go_wp2
 repeat (go_quiet (fail); try go_wp2)
 go_loopg [8] k (fun kq v8 w' => ∃ (x8_1 : Int), v8 = .int .i64 x8_1 ∧ Aside0 (impl_meets.l0 kq a0 a1 (a0.size : Int) x8_1 = some r) ∧ Aside0 (kq ≤ k) ∧ Drawn0 w w')
 case atStart => exact ⟨(0), (by first | rfl | (simp; done) | (simp [*]; done)), H', ⟨Nat.le_refl _⟩, by repeat (first | exact Drawn0.refl _ | apply Drawn0.step)⟩
 case round =>
  clear H'
  try clear p2
  obtain ⟨x8_1, rfl, HA, HK1, ⟨m1, rfl⟩⟩ := hrel
  cases gk with
  | zero => exact absurd HA.out (by simp [impl_meets.l0])
  | succ k1 =>
   have H := HA.out
   clear HA
   simp only [impl_meets.l0] at H
   by_cases c3 : x8_1 < (a0.size : Int)
   ·rw [if_pos c3] at H
    have c3b0 : decide (x8_1 < (a0.size : Int)) = true := decide_eq_true c3
    clear c3
    by_cases c4 : 0 ≤ x8_1
    ·rw [if_pos c4] at H
     have c4b0 : decide (0 ≤ x8_1) = true := decide_eq_true c4
     clear c4
     by_cases c5 : x8_1 < (a0.size : Int)
     ·rw [if_pos c5] at H
      have c5b0 : decide (x8_1 < (a0.size : Int)) = true := decide_eq_true c5
      clear c5
      by_cases c7 : (bt a0 x8_1) = 63
      ·rw [if_pos c7] at H
       have c7b0 : ((bt a0 x8_1) == 63) = true := beq_iff_eq.mpr c7
       have c7b1 : ((bt a0 x8_1) != 63) = false := bne_eq_false_iff_eq.mpr c7
       clear c7
       have H' := aM H
       clear H
       have p6 : 0 ≤ (x8_1 : Int) := of_decide_eq_true (by first | (with_reducible assumption) | assumption)
       have q6 : x8_1 < (a0.size : Int) := of_decide_eq_true (by first | (with_reducible assumption) | assumption)
       have hx6 := bt_at a0 x8_1
       replace p6 := eq_true p6
       replace q6 := eq_true q6
       go_wp2
       repeat (go_quiet (fail); try go_wp2)
       go_roundg k1
       case measure => have := HK1.out; omega
       case rel => exact ⟨(wrap64 (x8_1 + 1)), (by first | rfl | (simp; done) | (simp [*]; done)), H', ⟨by have := HK1.out; omega⟩, by repeat (first | exact Drawn0.refl _ | apply Drawn0.step)⟩
      ·rw [if_neg c7] at H
       have c7b0 : ((bt a0 x8_1) == 63) = false := beq_eq_false_iff_ne.mpr c7
       have c7b1 : ((bt a0 x8_1) != 63) = true := bne_iff_ne.mpr c7
       by_cases c9 : x8_1 < (a1.size : Int)
       ·rw [if_pos c9] at H
        have c9b0 : decide (x8_1 < (a1.size : Int)) = true := decide_eq_true c9
        clear c9
        by_cases c11 : (bt a0 x8_1) = (bt a1 x8_1)
        ·rw [if_pos c11] at H
         have c11b0 : ((bt a0 x8_1) == (bt a1 x8_1)) = true := beq_iff_eq.mpr c11
         have c11b1 : ((bt a0 x8_1) != (bt a1 x8_1)) = false := bne_eq_false_iff_eq.mpr c11
         clear c11
         have H' := aM H
         clear H
         have p6 : 0 ≤ (x8_1 : Int) := of_decide_eq_true (by first | (with_reducible assumption) | assumption)
         have q6 : x8_1 < (a0.size : Int) := of_decide_eq_true (by first | (with_reducible assumption) | assumption)
         have hx6 := bt_at a0 x8_1
         replace p6 := eq_true p6
         replace q6 := eq_true q6
         have p8 : 0 ≤ (x8_1 : Int) := of_decide_eq_true (by first | (with_reducible assumption) | assumption)
         have q8 : x8_1 < (a0.size : Int) := of_decide_eq_true (by first | (with_reducible assumption) | assumption)
         have hx8 := bt_at a0 x8_1
         replace p8 := eq_true p8
         replace q8 := eq_true q8
         have p10 : 0 ≤ (x8_1 : Int) := of_decide_eq_true (by first | (with_reducible assumption) | assumption)
         have q10 : x8_1 < (a1.size : Int) := of_decide_eq_true (by first | (with_reducible assumption) | assumption)
         have hx10 := bt_at a1 x8_1
         replace p10 := eq_true p10
         replace q10 := eq_true q10
         go_wp2
         repeat (go_quiet (fail); try go_wp2)
         go_roundg k1
         case measure => have := HK1.out; omega
         case rel => exact ⟨(wrap64 (x8_1 + 1)), (by first | rfl | (simp; done) | (simp [*]; done)), H', ⟨by have := HK1.out; omega⟩, by repeat (first | exact Drawn0.refl _ | apply Drawn0.step)⟩
        ·rw [if_neg c11] at H
         have c11b0 : ((bt a0 x8_1) == (bt a1 x8_1)) = false := beq_eq_false_iff_ne.mpr c11
         have c11b1 : ((bt a0 x8_1) != (bt a1 x8_1)) = true := bne_iff_ne.mpr c11
         obtain rfl := Option.some.inj H
         have p6 : 0 ≤ (x8_1 : Int) := of_decide_eq_true (by first | (with_reducible assumption) | assumption)
         have q6 : x8_1 < (a0.size : Int) := of_decide_eq_true (by first | (with_reducible assumption) | assumption)
         have hx6 := bt_at a0 x8_1
         replace p6 := eq_true p6
         replace q6 := eq_true q6
         have p8 : 0 ≤ (x8_1 : Int) := of_decide_eq_true (by first | (with_reducible assumption) | assumption)
         have q8 : x8_1 < (a0.size : Int) := of_decide_eq_true (by first | (with_reducible assumption) | assumption)
         have hx8 := bt_at a0 x8_1
         replace p8 := eq_true p8
         replace q8 := eq_true q8
         have p10 : 0 ≤ (x8_1 : Int) := of_decide_eq_true (by first | (with_reducible assumption) | assumption)
         have q10 : x8_1 < (a1.size : Int) := of_decide_eq_true (by first | (with_reducible assumption) | assumption)
         have hx10 := bt_at a1 x8_1
         replace p10 := eq_true p10
         replace q10 := eq_true q10
         go_wp2
         repeat (go_quiet (fail); try go_wp2)
         go_ret
         exact ⟨by first | rfl | (simp; done) | (simp [*]; done), by repeat (first | exact Drawn0.refl _ | apply Drawn0.step)⟩
       ·rw [if_neg c9] at H
        exact absurd H (by simp)
     ·rw [if_neg c5] at H
      exact absurd H (by simp)
    ·rw [if_neg c4] at H
     exact absurd H (by simp)
   ·rw [if_neg c3] at H
    have c3b0 : decide (x8_1 < (a0.size : Int)) = false := decide_eq_false c3
    clear c3
    obtain rfl := Option.some.inj H
    go_wp2
    repeat (go_quiet (fail); try go_wp2)
    go_ret
    exact ⟨by first | rfl | (simp; done) | (simp [*]; done), by repeat (first | exact Drawn0.refl _ | apply Drawn0.step)⟩

/-! ### impl_keyedMoves: function 31 -/
def impl_keyedMoves.l0 : Nat → ByteArray → List Int → List ByteArray → Int → Int → Option (List Int)
 | 0, _, _, _, _, _ => none
 | k + 1, x1, x5, x8, x9, x10 => if x10 < x9 then (if 0 ≤ x10 then (if x10 < (x8.length : Int) then ((impl_meets.f k (rdOf ByteArray.empty x8 x10) x1).bind fun t228 => (if t228 = true then (if x5.length < 17592186044416 then (impl_keyedMoves.l0 k x1 (x5 ++ [x10]) x8 x9 (wrap64 (x10 + 1))) else (none)) else (impl_keyedMoves.l0 k x1 x5 x8 x9 (wrap64 (x10 + 1))))) else (none)) else (none)) else (some x5)
def impl_keyedMoves.f (k : Nat) (l0 : List ByteArray) (a1 : ByteArray) : Option (List Int) := impl_keyedMoves.l0 k a1 ([] : List Int) l0 (l0.length : Int) 0
theorem impl_keyedMoves.mono_l : ∀ k, (∀ y0 y1 y2 y3 y4, LeO (impl_keyedMoves.l0 k y0 y1 y2 y3 y4) (impl_keyedMoves.l0 (k + 1) y0 y1 y2 y3 y4))
 | 0 => fun _ _ _ _ _ r h => by simp [impl_keyedMoves.l0] at h
 | k + 1 => by
  have ih0 := impl_keyedMoves.mono_l k
  ·intro y0 y1 y2 y3 y4
   unfold impl_keyedMoves.l0
   repeat' first
   | (with_reducible exact ih0 _ _ _ _ _)
   | (with_reducible exact impl_meets.mono _ _ _)
   | (with_reducible exact LeO.refl _)
   | (with_reducible exact LeO.none _)
   | (with_reducible refine LeO.ite ?_ ?_)
   | (with_reducible refine LeO.bind ?_ (fun _ => ?_))
   | exact ih0 _ _ _ _ _
   | exact impl_meets.mono _ _ _
   | exact LeO.none _
   | refine LeO.ite ?_ ?_
   | refine LeO.bind ?_ (fun _ => ?_)
theorem impl_keyedMoves.mono : ∀ a0 a1 k, LeO (impl_keyedMoves.f k a0 a1) (impl_keyedMoves.f (k + 1) a0 a1) := by
 intro a0 a1 k
 have ih0 := impl_keyedMoves.mono_l k
 unfold impl_keyedMoves.f
 repeat' first
   | (with_reducible exact ih0 _ _ _ _ _)
   | (with_reducible exact impl_meets.mono _ _ _)
   | (with_reducible exact LeO.refl _)
   | (with_reducible exact LeO.none _)
   | (with_reducible refine LeO.ite ?_ ?_)
   | (with_reducible refine LeO.bind ?_ (fun _ => ?_))
   | exact ih0 _ _ _ _ _
   | exact impl_meets.mono _ _ _
   | exact LeO.none _
   | refine LeO.ite ?_ ?_
   | refine LeO.bind ?_ (fun _ => ?_)
set_option maxHeartbeats 8000000 in
set_option maxRecDepth 100000 in
theorem impl_keyedMoves.calls (k : Nat) (A0 : Option Addr) (c0 : Nat) (l0 : List ByteArray) (a1 : ByteArray) (r : List Int) (w : World) (hr0 : Kd.C Kd.string w A0 l0.length l0) (hc0 : l0.length ≤ c0) (h : impl_keyedMoves.f k l0 a1 = some r) :
  Calls Tryd.prog 31 #[.slice A0 l0.length c0, .string a1] w fun e w' => ∃ v0_ : Value, e = .returned (v0_) ∧ Kd.R (Kd.int .i64) 3 w' w.heap.size (fun _ => True) v0_ r ∧ Below w.heap.size w w' := by
 have HR0 := aM hr0
 have HC0 := aM hc0
 clear hr0 hc0
 have HB := aM (Below.refl w.heap.size w)
 have H : (impl_keyedMoves.l0 k a1 ([] : List Int) l0 (l0.length : Int) 0) = some r := h
 clear h
 have H' := aM H
 clear H
 go_enter Tryd.func31, Tryd.ntmps31
 go_wp2
 go_loopg [5, 10] k (fun kq v5 v10 w' => ∃ (x5_1 : List Int) (x10_1 : Int), v10 = .int .i64 x10_1 ∧ Aside0 (impl_keyedMoves.l0 kq a1 x5_1 l0 (l0.length : Int) x10_1 = some r) ∧ Aside0 (kq ≤ k) ∧ Aside0 (Kd.R (Kd.int .i64) 3 w' w.heap.size (fun _ => True) v5 x5_1) ∧ Aside0 (Below w.heap.size w w'))
 case atStart => exact ⟨(([] : List Int)), (0), (by first | rfl | (simp; done) | (simp [*]; done)), H', ⟨Nat.le_refl _⟩, ⟨by first | exact Kd.R_nil _ _ _ _ _ | exact Kd.N_nil _ _ _ _ _ | exact Kd.V_nil _ _ _ _ _ | exact Kd.Q_nil _ _ _ _ _ | exact Kd.S_nil _ _ _ _ _⟩, ⟨by repeat (first | (with_reducible first | exact HB.out | apply bA | apply bN | apply bD) | exact HB.out)⟩⟩
 case round =>
  clear H'
  try clear p2
  obtain ⟨x5_1, x10_1, rfl, HA, HK1, HO_5, HB⟩ := hrel
  cases gk with
  | zero => exact absurd HA.out (by simp [impl_keyedMoves.l0])
  | succ k1 =>
   have H := HA.out
   clear HA
   simp only [impl_keyedMoves.l0] at H
   by_cases c3 : x10_1 < (l0.length : Int)
   ·rw [if_pos c3] at H
    have c3b0 : decide (x10_1 < (l0.length : Int)) = true := decide_eq_true c3
    clear c3
    by_cases c4 : 0 ≤ x10_1
    ·rw [if_pos c4] at H
     have c4b0 : decide (0 ≤ x10_1) = true := decide_eq_true c4
     clear c4
     by_cases c5 : x10_1 < (l0.length : Int)
     ·rw [if_pos c5] at H
      have c5b0 : decide (x10_1 < (l0.length : Int)) = true := decide_eq_true c5
      clear c5
      replace H := Option.bind_eq_some_iff.mp H
      obtain ⟨t228, A60, H⟩ := H
      replace H : (if t228 = true then (if x5_1.length < 17592186044416 then (impl_keyedMoves.l0 k1 a1 (x5_1 ++ [x10_1]) l0 (l0.length : Int) (wrap64 (x10_1 + 1))) else (none)) else (impl_keyedMoves.l0 k1 a1 x5_1 l0 (l0.length : Int) (wrap64 (x10_1 + 1)))) = some r := H
      have A6 := aM A60
      clear A60
      by_cases c7 : t228 = true
      ·subst c7
       have H1 : (if x5_1.length < 17592186044416 then (impl_keyedMoves.l0 k1 a1 (x5_1 ++ [x10_1]) l0 (l0.length : Int) (wrap64 (x10_1 + 1))) else (none)) = some r := by rw [if_pos rfl] at H; exact H
       clear H; have H := H1; clear H1
       by_cases c8 : x5_1.length < 17592186044416
       ·rw [if_pos c8] at H
        have LMc8 := aM c8
        clear c8
        obtain ⟨y229, hy229⟩ : ∃ y_ : List Int, y_ = (x5_1 ++ [x10_1]) := ⟨_, rfl⟩
        replace H : (impl_keyedMoves.l0 k1 a1 y229 l0 (l0.length : Int) (wrap64 (x10_1 + 1))) = some r := by first | (rw [hy229]; with_reducible exact H) | (have H2_ := (Option.bind_some _ _).symm.trans H; rw [hy229]; with_reducible exact H2_) | (have H2_ := (Option.bind_some _ _).symm.trans H; with_reducible exact H2_) | with_reducible exact H | (rw [hy229]; exact H) | exact H
        have Ny229 := aM hy229
        clear hy229
        have H' := aM H
        clear H
        have p227 : 0 ≤ (x10_1 : Int) := of_decide_eq_true (by first | (with_reducible assumption) | assumption)
        have q227 : x10_1 < (l0.length : Int) := of_decide_eq_true (by first | (with_reducible assumption) | assumption)
        obtain ⟨ad227, e227, hx227_0⟩ := Kd.at_string HR0.out x10_1 p227 q227
        cases e227
        replace hx227_0 := (HB.out.cell (World.block_lt_of_cell? w _ hx227_0)).trans hx227_0
        replace p227 := eq_true p227
        replace q227 := eq_true q227
        go_wp2_with (first | ((with_reducible refine gate_callee (f := 39) rfl ?_); refine goesL_ (some 17) rfl rfl Tryd.func39 (by kernel_rfl) rfl #[.string (rdOf ByteArray.empty l0 x10_1), .string a1] rfl (by (try simp only [List.map_toArray, List.map_cons, List.map_nil]); first | done | rfl | (simp only [List.length_drop, List.length_take]; rfl)) ?_; (with_reducible refine (impl_meets.calls k1 (rdOf ByteArray.empty l0 x10_1) a1 true _ A6.out).mono ?_); rintro e w' ⟨rfl, ⟨nd, rfl⟩⟩; refine ⟨_, rfl, ?_⟩) | ((with_reducible refine gate_builtin (b := .append) (xs := #[.tmp 18, .tmp 20]) rfl ?_); at_builtin; refine Kd.R_append (Kd.int .i64) (w0 := w) w.heap.size rfl (.tmp 18) (.tmp 20) 27 3 (.int .i64 0) 8 rfl Tryd.underlying27 info3 rfl (by decide) (by omega) u5 x5_1 x10_1 [.int .i64 x10_1] (fun _ => True) (fun _ => False) rfl rfl ?aP (fun _ hk => hk.elim) ?aF ?aO ?aB ?aS ?aL ?_; (case aP => exact rfl); (case aB => exact (by repeat (first | (with_reducible first | exact HB.out | apply bA | apply bN | apply bD) | exact HB.out))); (case aF => exact (fun _ _ => trivial)); (case aO => exact (by (with_reducible repeat (first | apply rA | apply rN | apply rD)); exact HO_5.out)); (case aS => exact (below_size (by repeat (first | (with_reducible first | exact HB.out | apply bA | apply bN | apply bD) | exact HB.out)))); (case aL => have := LMc8.out; omega); intro v230 w9 ho hb hg hat; rw [← Ny229.out] at ho; have n0_ := aM (hb); have n1_ := aM (ho); clear HB; clear HO_5; have HB := n0_; have HO231 := n1_; clear n0_ n1_; clear ho hb hg hat))
        go_roundg k1
        case measure => have := HK1.out; omega
        case rel => exact ⟨(y229), (wrap64 (x10_1 + 1)), (by first | rfl | (simp; done) | (simp [*]; done)), H', ⟨by have := HK1.out; omega⟩, ⟨by (with_reducible repeat (first | apply rA | apply rN | apply rD)); exact HO231.out⟩, ⟨by repeat (first | (with_reducible first | exact HB.out | apply bA | apply bN | apply bD) | exact HB.out)⟩⟩
       ·rw [if_neg c8] at H
        exact absurd H (by simp)
      ·replace c7 := Bool.eq_false_iff.mpr c7
       subst c7
       have H1 : (impl_keyedMoves.l0 k1 a1 x5_1 l0 (l0.length : Int) (wrap64 (x10_1 + 1))) = some r := by rw [if_neg (show ¬ (false = true) by decide)] at H; exact H
       clear H; have H := H1; clear H1
       have H' := aM H
       clear H
       have p227 : 0 ≤ (x10_1 : Int) := of_decide_eq_true (by first | (with_reducible assumption) | assumption)
       have q227 : x10_1 < (l0.length : Int) := of_decide_eq_true (by first | (with_reducible assumption) | assumption)
       obtain ⟨ad227, e227, hx227_0⟩ := Kd.at_string HR0.out x10_1 p227 q227
       cases e227
       replace hx227_0 := (HB.out.cell (World.block_lt_of_cell? w _ hx227_0)).trans hx227_0
       replace p227 := eq_true p227
       replace q227 := eq_true q227
       go_wp2_with (first | ((with_reducible refine gate_callee (f := 39) rfl ?_); refine goesL_ (some 17) rfl rfl Tryd.func39 (by kernel_rfl) rfl #[.string (rdOf ByteArray.empty l0 x10_1), .string a1] rfl (by (try simp only [List.map_toArray, List.map_cons, List.map_nil]); first | done | rfl | (simp only [List.length_drop, List.length_take]; rfl)) ?_; (with_reducible refine (impl_meets.calls k1 (rdOf ByteArray.empty l0 x10_1) a1 false _ A6.out).mono ?_); rintro e w' ⟨rfl, ⟨nd, rfl⟩⟩; refine ⟨_, rfl, ?_⟩))
       go_roundg k1
       case measure => have := HK1.out; omega
       case rel => exact ⟨(x5_1), (wrap64 (x10_1 + 1)), (by first | rfl | (simp; done) | (simp [*]; done)), H', ⟨by have := HK1.out; omega⟩, ⟨by (with_reducible repeat (first | apply rA | apply rN | apply rD)); exact HO_5.out⟩, ⟨by repeat (first | (with_reducible first | exact HB.out | apply bA | apply bN | apply bD) | exact HB.out)⟩⟩
     ·rw [if_neg c5] at H
      exact absurd H (by simp)
    ·rw [if_neg c4] at H
     exact absurd H (by simp)
   ·rw [if_neg c3] at H
    have c3b0 : decide (x10_1 < (l0.length : Int)) = false := decide_eq_false c3
    clear c3
    obtain rfl := Option.some.inj H
    go_wp2
    go_ret
    exact ⟨_, by first | rfl | (simp [errW_none, errW_some] <;> rfl) | (simp [*, errW_none, errW_some] <;> rfl), by (with_reducible repeat (first | apply rA | apply rN | apply rD)); exact HO_5.out, by repeat (first | (with_reducible first | exact HB.out | apply bA | apply bN | apply bD) | exact HB.out)⟩

/-! ### impl_turned: function 32 (told by hand) -/
/-- impl.turned: a copy of a text's bytes, one of them set. -/
def impl_turned.f (a0 : ByteArray) (a1 : Int) : Option ByteArray :=
 if 0 ≤ a1 ∧ a1 < (a0.size : Int) ∧ a0.size ≤ 4611686018427387904 ∧ (a0.data.toList.getD a1.toNat 0).toNat ≤ 97 then some ⟨(a0.data.toList.set a1.toNat (UInt8.ofNat (97 - (a0.data.toList.getD a1.toNat 0).toNat))).toArray⟩ else none
set_option maxHeartbeats 8000000 in
set_option maxRecDepth 100000 in
theorem impl_turned.calls (a0 : ByteArray) (a1 : Int) (r : ByteArray) (w : World) (h : impl_turned.f a0 a1 = some r) :
  Calls Tryd.prog 32 #[.string a0, .int .i64 a1] w fun e w' => e = .returned (.string r) ∧ Below w.heap.size w w' := by
 unfold impl_turned.f at h
 by_cases c0 : ¬ (0 ≤ a1 ∧ a1 < (a0.size : Int) ∧ a0.size ≤ 4611686018427387904 ∧ (a0.data.toList.getD a1.toNat 0).toNat ≤ 97)
 ·rw [if_neg c0] at h; exact absurd h (by simp)
 replace c0 := Decidable.not_not.mp c0
 rw [if_pos c0] at h
 obtain rfl := Option.some.inj h
 clear h
 obtain ⟨c1, c2, c3, c4⟩ := c0
 obtain ⟨i, rfl⟩ : ∃ i : Nat, a1 = (i : Int) := ⟨a1.toNat, by omega⟩
 have hi : i < a0.size := by omega
 have e1 : (i : Int).toNat = i := rfl
 rw [e1] at c4 ⊢
 obtain ⟨b, hb⟩ : ∃ b : UInt8, b = a0.data.toList.getD i 0 := ⟨_, rfl⟩
 rw [← hb] at c4 ⊢
 have hconv := Lib.run_convert_string_bytes (P := Tryd.prog) w 9 22 5 a0 Tryd.underlying9 Tryd.underlying22 Tryd.underlying5
 have hat := Lib.bytesWorld_at_new w 5 a0
 have hcells : ∀ j, j < a0.size → (Lib.bytesWorld w 5 a0).cell? ⟨w.heap.size, j, none⟩ = some (.int .u8 (a0.data.toList.getD j 0).toNat) := fun j hj => Lib.bytesWorld_cell w 5 a0 j hj
 have hbel : Below w.heap.size w (Lib.bytesWorld w 5 a0) := bytes_below (Below.refl _ _) (Nat.le_refl _) 5 a0
 have hfz : (Lib.bytesWorld w 5 a0).frozen? ⟨w.heap.size, i, none⟩ = false := by
  have hs : a0.size ≤ (Lib.bytesCells w 5 a0).size := by simp [Lib.bytesCells, Array.size_append]
  simp [World.frozen?, hat]
  omega
 have hci := hcells i hi
 rw [← hb] at hci
 obtain ⟨v, hv⟩ : ∃ v : UInt8, v = UInt8.ofNat (97 - b.toNat) := ⟨_, rfl⟩
 rw [← hv]
 have hvn : (v.toNat : Int) = 97 - (b.toNat : Int) := by
  rw [hv]
  simp
  omega
 have hvw : IntKind.u8.wrap (97 - (b.toNat : Int)) = (v.toNat : Int) := by
  rw [← hvn]
  have := v.toNat_lt
  simp [IntKind.wrap, IntKind.bits, IntKind.signed]
  omega
 have hvm : (97 - (b.toNat : Int)) % 256 = (v.toNat : Int) := by
  rw [← hvn]
  have := v.toNat_lt
  omega
 generalize hW1 : Lib.bytesWorld w 5 a0 = W1 at hconv hat hcells hbel hfz hci
 generalize grownCap w a0.size 0 5 = cap at hconv
 clear hat hW1
 have hback : (convert 22 9 (.slice (some ⟨w.heap.size, 0, none⟩) a0.size cap)).run Tryd.prog (W1.setCell ⟨w.heap.size, i, none⟩ (.int .u8 (v.toNat : Int))) = .ok (.string ⟨(a0.data.toList.set i v).toArray⟩) (W1.setCell ⟨w.heap.size, i, none⟩ (.int .u8 (v.toNat : Int))) := by
  have hl : (a0.data.toList.set i v).length = a0.size := by rw [List.length_set, Array.length_toList]; rfl
  have h := run_convert_bytes_back (P := Tryd.prog) (W1.setCell ⟨w.heap.size, i, none⟩ (.int .u8 (v.toNat : Int))) 22 9 5 ⟨w.heap.size, 0, none⟩ cap (a0.data.toList.set i v) Tryd.underlying22 Tryd.underlying5 Tryd.underlying9 (fun j hj => by
   rw [hl] at hj
   rw [add_plain, List.getElem_set]
   by_cases e : i = j
   ·subst e
    rw [World.cell?_setCell_same _ _ _ (hcells i hi), if_pos rfl]
   ·rw [World.cell?_setCell_other _ _ _ _ (by intro h; injection h with _ h2 _; exact e h2), hcells j hj, if_neg e]
    have hl2 : j < a0.data.toList.length := by rw [Array.length_toList]; exact hj
    simp [List.getD, List.getElem?_eq_getElem hl2])
  rw [hl] at h
  exact h
 have hbe2 : Below w.heap.size w (W1.setCell ⟨w.heap.size, i, none⟩ (.int .u8 (v.toNat : Int))) := hbel.setCell (Nat.le_refl _) _
 have c1b := decide_eq_true c1
 have c2b := decide_eq_true c2
 have HB2 := aM hbe2
 clear hcells hbel hbe2 hb hv hvn e1 c3 c4 c1 c2
 go_enter Tryd.func32, Tryd.ntmps32
 go_wp2
 go_ret
 exact ⟨rfl, HB2.out⟩

/-! ### impl_searchKeyed_1: function 55 (told by hand) -/
/-- The function value of a search by keys: the states behind all moves of a state. -/
def impl_searchKeyed_1.l0 (s : ByteArray) : Nat → List Int → List ByteArray → Int → Option (List ByteArray)
 | 0, _, _, _ => none
 | k + 1, ms, x, i => if i < (ms.length : Int) then (if 0 ≤ i then ((impl_turned.f s (rd ms i)).bind fun t => if x.length < 8796093022208 then impl_searchKeyed_1.l0 s k ms (x ++ [t]) (wrap64 (i + 1)) else none) else none) else some x
def impl_searchKeyed_1.f (l0 : List ByteArray) (k : Nat) (s : ByteArray) : Option (List ByteArray) := (impl_keyedMoves.f k l0 s).bind fun ms => impl_searchKeyed_1.l0 s k ms [] 0
theorem impl_searchKeyed_1.mono_l (s : ByteArray) : ∀ k ms x i, LeO (impl_searchKeyed_1.l0 s k ms x i) (impl_searchKeyed_1.l0 s (k + 1) ms x i)
 | 0, _, _, _ => fun r h => by simp [impl_searchKeyed_1.l0] at h
 | k + 1, ms, x, i => by
  unfold impl_searchKeyed_1.l0
  exact LeO.ite (LeO.ite (LeO.bind (LeO.refl _) (fun _ => LeO.ite (impl_searchKeyed_1.mono_l s k _ _ _) (LeO.none _))) (LeO.none _)) (LeO.refl _)
theorem impl_searchKeyed_1.mono (l0 : List ByteArray) : ∀ s n, LeO (impl_searchKeyed_1.f l0 n s) (impl_searchKeyed_1.f l0 (n + 1) s) := fun s n =>
 LeO.bind (impl_keyedMoves.mono _ _ _) (fun _ => impl_searchKeyed_1.mono_l s n _ _ _)
set_option maxHeartbeats 8000000 in
set_option maxRecDepth 100000 in
theorem impl_searchKeyed_1.calls (B : Nat) (A0 : Option Addr) (c0 : Nat) (l0 : List ByteArray) (k : Nat) (s : ByteArray) (ts : List ByteArray) (w : World) (hbk : w.heap[B]? = some (.cells #[.slice A0 l0.length c0] 24 (0, 0)))
  (hr0 : Kd.C Kd.string w A0 l0.length l0) (hc0 : l0.length ≤ c0) (h : impl_searchKeyed_1.f l0 k s = some ts) :
  Calls Tryd.prog 55 (#[.string s] ++ #[.pointer (some ⟨B, 0, none⟩)]) w fun e w' => ∃ v, e = .returned v ∧ Kd.R Kd.string 9 w' w.heap.size (fun _ => True) v ts ∧ Below w.heap.size w w' := by
 show Calls Tryd.prog 55 #[.string s, .pointer (some ⟨B, 0, none⟩)] w _
 unfold impl_searchKeyed_1.f at h
 obtain ⟨ms, A1_, H⟩ := Option.bind_eq_some_iff.mp h
 have HR0 := aM hr0
 have HC0 := aM hc0
 have HA0 := aM A1_
 have H' := aM H
 have hz0 : w.cell? ⟨B, 0, none⟩ = some (.slice A0 l0.length c0) := (blk_cell hbk 0).trans rfl
 clear hr0 hc0 A1_ hbk h H
 go_enter Tryd.func55, Tryd.ntmps55
 go_wp2_with (first | (go_at_call 31; (with_reducible refine (impl_keyedMoves.calls k A0 c0 l0 s ms w HR0.out HC0.out HA0.out).mono ?_); rintro e w6 ⟨vm, rfl, hm, hb⟩; obtain ⟨Am, cm, em⟩ := Kd.R_slice hm; subst em; have HM := aM hm; have HB := aM hb; clear hm hb))
 go_loopg [4, 11] k (fun kq v4 v11 w' => ∃ (x : List ByteArray) (i : Int), v11 = .int .i64 i ∧ Aside0 (impl_searchKeyed_1.l0 s kq ms x i = some ts) ∧ Aside0 (kq ≤ k) ∧ Aside0 (Kd.R Kd.string 9 w' w.heap.size (fun _ => True) v4 x) ∧ Aside0 (Kd.R (Kd.int .i64) 3 w' w.heap.size (fun _ => True) (.slice Am ms.length cm) ms) ∧ Aside0 (Below w.heap.size w w'))
 case atStart => exact ⟨[], 0, rfl, H', ⟨Nat.le_refl _⟩, ⟨Kd.R_nil _ _ _ _ _⟩, HM, HB⟩
 case round =>
  clear H' HM HB hz0
  obtain ⟨x, i, rfl, HA, HK1, HX, HM, HB⟩ := hrel
  cases gk with
  | zero => exact absurd HA.out (by simp [impl_searchKeyed_1.l0])
  | succ k1 =>
   have H := HA.out
   clear HA
   simp only [impl_searchKeyed_1.l0] at H
   by_cases c4 : i < (ms.length : Int)
   ·rw [if_pos c4] at H
    have c4b0 : decide (i < (ms.length : Int)) = true := decide_eq_true c4
    by_cases c5 : 0 ≤ i
    ·rw [if_pos c5] at H
     have c5b0 : decide (0 ≤ i) = true := decide_eq_true c5
     obtain ⟨t, A2_, H⟩ := Option.bind_eq_some_iff.mp H
     have A2 := aM A2_
     clear A2_
     by_cases c6 : x.length < 8796093022208
     ·rw [if_pos c6] at H
      have LM := aM c6
      have H' := aM H
      clear H c6
      obtain ⟨ad, ea, hx0⟩ := Kd.at_int (Kd.R_reads' HM.out).2.2 i c5 c4
      cases ea
      have q4 := eq_true c4
      have q5 := eq_true c5
      clear c4 c5
      go_wp2_with (first
       | ((with_reducible refine gate_callee (f := 32) rfl ?_); refine goesL_ (some 18) rfl rfl Tryd.func32 (by kernel_rfl) rfl #[.string s, .int .i64 (rd ms i)] rfl (by (try simp only [List.map_toArray, List.map_cons, List.map_nil]); first | done | rfl) ?_; (with_reducible refine (impl_turned.calls s (rd ms i) t _ A2.out).mono ?_); rintro e w18 ⟨rfl, hb⟩; refine ⟨_, rfl, ?_⟩; have n0_ := aM (Kd.R_below HX.out hb); have n1_ := aM (Kd.R_below HM.out hb); have n4_ := aM (below_step HB.out hb); clear HX HM HB hb; have HX := n0_; have HM := n1_; have HB := n4_; clear n0_ n1_ n4_)
       | ((with_reducible refine gate_builtin (b := .append) (xs := #[.tmp 15, .tmp 19]) rfl ?_); at_builtin; refine Kd.R_append Kd.string (w0 := w) w.heap.size rfl (.tmp 15) (.tmp 19) 24 9 (.string ⟨#[]⟩) 16 rfl Tryd.underlying24 info9 rfl (by decide) (by omega) u4 x t [.string t] (fun _ => True) (fun _ => False) rfl rfl ?aP (fun _ hk => hk.elim) ?aF ?aO ?aB ?aS ?aL ?_; (case aP => exact rfl); (case aB => exact HB.out); (case aF => exact (fun _ _ => trivial)); (case aO => exact HX.out); (case aS => exact below_size HB.out); (case aL => have := LM.out; omega); intro v2 w20 ho hb hg hat; have n0_ := aM (Kd.R_mono (Kd.R_over' HM.out (Kd.R_typed HX.out) (by decide) hg) (fun _ _ => trivial)); have n3_ := aM hb; have n4_ := aM ho; clear HM HB HX; have HM := n0_; have HB := n3_; have HX := n4_; clear n0_ n3_ n4_; clear ho hb hg hat))
      go_roundg k1
      case measure => have := HK1.out; omega
      case rel => exact ⟨x ++ [t], wrap64 (i + 1), rfl, H', ⟨by have := HK1.out; omega⟩, ⟨Kd.R_mono HX.out (fun _ _ => trivial)⟩, HM, HB⟩
     ·rw [if_neg c6] at H
      cases H
    ·rw [if_neg c5] at H
     cases H
   ·rw [if_neg c4] at H
    have c4b0 : decide (i < (ms.length : Int)) = false := decide_eq_false c4
    clear c4
    obtain rfl := Option.some.inj H
    go_wp2
    go_ret
    exact ⟨_, rfl, HX.out, HB.out⟩

/-! ### impl_searchKeyed: function 30 (told by hand) -/
theorem impl_searched.St.rebase {w w5 w' : World} {gb b1 b2 : Nat} {ok : Nat → Prop} {v : Value} {x : List ByteArray} {f g : ByteArray → Option Int} {c : Nat} (hB : Below w.heap.size w w5) (h : impl_searched.St w5 w' gb b1 b2 ok v x f g c) : impl_searched.St w w' gb b1 b2 ok v x f g c :=
 ⟨Kd.R_lower h.lst hB.size, h.blk, h.far, h.way, ⟨Nat.le_trans hB.size h.ge.1, Nat.le_trans hB.size h.ge.2.1, Nat.le_trans hB.size h.ge.2.2.1, h.ge.2.2.2⟩, below_step hB h.bel⟩
def impl_searchKeyed.f (k : Nat) (l0 : List ByteArray) (a1 : ByteArray) : Option (List ByteArray × (ByteArray → Option Int) × (ByteArray → Option Int)) := impl_searched.f (impl_searchKeyed_1.f l0) k a1
theorem impl_searchKeyed.mono : ∀ a0 a1 k, LeO (impl_searchKeyed.f k a0 a1) (impl_searchKeyed.f (k + 1) a0 a1) := fun a0 a1 k => impl_searched.mono (impl_searchKeyed_1.mono a0) a1 k
set_option maxHeartbeats 8000000 in
set_option maxRecDepth 100000 in
theorem impl_searchKeyed.calls (k : Nat) (A0 : Option Addr) (c0 : Nat) (l0 : List ByteArray) (a1 : ByteArray) (r : List ByteArray × (ByteArray → Option Int) × (ByteArray → Option Int)) (w : World) (hr0 : Kd.C Kd.string w A0 l0.length l0) (hc0 : l0.length ≤ c0) (hs : a1.size ≤ maxLen) (h : impl_searchKeyed.f k l0 a1 = some r) :
  Calls Tryd.prog 30 #[.slice A0 l0.length c0, .string a1] w fun e w' => ∃ gb, e = .returned (.pointer (some ⟨gb, 0, none⟩)) ∧ ∃ b1 b2 v c, impl_searched.St w w' gb b1 b2 (fun _ => True) v r.1 r.2.1 r.2.2 c := by
 have hmf : ∀ (fn : Fn) (first cap : Array Value) (w : World), (Instr.makeFunc fn first cap).run Tryd.prog w = .ok (.func fn first cap) w := fun _ _ _ _ => rfl
 have HR0 := aM hr0
 have HC0 := aM hc0
 have HS := aM hs
 have HA := aM (show impl_searched.f (impl_searchKeyed_1.f l0) k a1 = some r from h)
 clear hr0 hc0 hs h
 go_enter Tryd.func30, Tryd.ntmps30
 go_wp2_with (first | ((with_reducible refine gate_dst (N := 2) rfl ?_); refine box_event ?hg (N := 2) ?hd (cs := #[.slice A0 l0.length c0]) (t := 24) ?hr ?_; (case hd => rfl); (case hg => rfl); (case hr => first | (go_simp; done) | (go_simp; rfl)); intro gb hg w5 hbox hb; have HB := aM hb; have BK := aM hbox; clear hb hbox hg) | (go_at_call 54; (with_reducible refine (impl_searched.calls 55 #[.pointer (some ⟨gb, 0, none⟩)] (Go.Proofs.enters_of Tryd.func55 (by kernel_rfl) rfl) (impl_searchKeyed_1.f l0) k a1 r w5 HS.out (fun j x ts W' hb' hj => impl_searchKeyed_1.calls gb A0 c0 l0 j x ts W' (blk_below (g := gb) (o := .cells #[.slice A0 l0.length c0] 24 (0, 0)) BK.out hb') (Kd.C_below (Kd.C_below HR0.out HB.out) hb') HC0.out hj) HA.out).mono ?_); rintro e w7 ⟨gr, rfl, b1, b2, v, c, hS⟩; have SS := aM (hS.rebase HB.out); clear hS))
 go_ret
 exact ⟨gr, rfl, b1, b2, v, c, SS.out⟩

/-! ### impl_FirstKeyed: function 6 (told by hand) -/
mutual
def impl_FirstKeyed.l0 (l0 : List ByteArray) (f : ByteArray → Option Int) (tb : ByteArray) : Nat → ByteArray → List Int → Option (List Int × Bool)
 | 0, _, _ => none
 | k + 1, s, x => if s.toList = tb.toList then some (x, true) else ((impl_keyedMoves.f k l0 s).bind fun ms => impl_FirstKeyed.l1 l0 f tb k s x ms 0)
def impl_FirstKeyed.l1 (l0 : List ByteArray) (f : ByteArray → Option Int) (tb : ByteArray) : Nat → ByteArray → List Int → List Int → Int → Option (List Int × Bool)
 | 0, _, _, _, _ => none
 | k + 1, s, x, ms, i => if i < (ms.length : Int) then (if 0 ≤ i then ((impl_turned.f s (rd ms i)).bind fun t => if s.size ≤ maxLen ∧ t.size ≤ maxLen ∧ x.length < 8796093022208 then (if (f t).getD 0 = wrap64 ((f s).getD 0 - 1) then impl_FirstKeyed.l0 l0 f tb k t (x ++ [rd ms i]) else impl_FirstKeyed.l1 l0 f tb k s x ms (wrap64 (i + 1))) else none) else none) else impl_FirstKeyed.l0 l0 f tb k s x
end
def impl_FirstKeyed.f (k : Nat) (l0 : List ByteArray) (a1 a2 : ByteArray) : Option (List Int × Bool) :=
 (impl_keyed.f k l0 [a1, a2]).bind fun t => if t = true then (if a1.size ≤ maxLen ∧ a2.size ≤ maxLen then ((impl_searchKeyed.f k l0 a2).bind fun q => if (q.2.1 a1).isSome = true then impl_FirstKeyed.l0 l0 q.2.1 a2 k a1 [] else some ([], false)) else none) else some ([], false)
theorem impl_FirstKeyed.mono_l (l0 : List ByteArray) (f : ByteArray → Option Int) (tb : ByteArray) : ∀ k, (∀ s x, LeO (impl_FirstKeyed.l0 l0 f tb k s x) (impl_FirstKeyed.l0 l0 f tb (k + 1) s x)) ∧ (∀ s x ms i, LeO (impl_FirstKeyed.l1 l0 f tb k s x ms i) (impl_FirstKeyed.l1 l0 f tb (k + 1) s x ms i))
 | 0 => ⟨fun _ _ r h => by simp [impl_FirstKeyed.l0] at h, fun _ _ _ _ r h => by simp [impl_FirstKeyed.l1] at h⟩
 | k + 1 => by
  obtain ⟨ih0, ih1⟩ := impl_FirstKeyed.mono_l l0 f tb k
  refine ⟨fun s x => ?_, fun s x ms i => ?_⟩
  ·unfold impl_FirstKeyed.l0
   exact LeO.ite (LeO.refl _) (LeO.bind (impl_keyedMoves.mono _ _ _) (fun _ => ih1 _ _ _ _))
  ·unfold impl_FirstKeyed.l1
   exact LeO.ite (LeO.ite (LeO.bind (LeO.refl _) (fun _ => LeO.ite (LeO.ite (ih0 _ _) (ih1 _ _ _ _)) (LeO.none _))) (LeO.none _)) (ih0 _ _)
theorem impl_FirstKeyed.mono : ∀ a0 a1 a2 k, LeO (impl_FirstKeyed.f k a0 a1 a2) (impl_FirstKeyed.f (k + 1) a0 a1 a2) := fun _ _ _ k =>
 LeO.bind (impl_keyed.mono _ _ _) (fun _ => LeO.ite (LeO.ite (LeO.bind (impl_searchKeyed.mono _ _ _) (fun _ => LeO.ite ((impl_FirstKeyed.mono_l _ _ _ k).1 _ _) (LeO.refl _))) (LeO.refl _)) (LeO.refl _))
set_option maxHeartbeats 8000000 in
set_option maxRecDepth 100000 in
theorem impl_FirstKeyed.calls (k : Nat) (A0 : Option Addr) (c0 : Nat) (l0 : List ByteArray) (a1 : ByteArray) (a2 : ByteArray) (r1 : List Int) (r2 : Bool) (w : World) (hr0 : Kd.C Kd.string w A0 l0.length l0) (hc0 : l0.length ≤ c0) (h : impl_FirstKeyed.f k l0 a1 a2 = some (r1, r2)) :
  Calls Tryd.prog 6 #[.slice A0 l0.length c0, .string a1, .string a2] w fun e w' => ∃ v0_ : Value, e = .returned (.tuple #[v0_, .bool r2]) ∧ Kd.R (Kd.int .i64) 3 w' w.heap.size (fun _ => True) v0_ r1 ∧ Below w.heap.size w w' := by
 have hu2 := Tryd.underlying52
 have HR0 := aM hr0
 have HC0 := aM hc0
 clear hr0 hc0
 unfold impl_FirstKeyed.f at h
 obtain ⟨ys, hys⟩ : ∃ y_ : List ByteArray, y_ = ([a1, a2] : List ByteArray) := ⟨_, rfl⟩
 rw [← hys] at h
 have NY := aM hys
 clear hys
 obtain ⟨t, G_, h⟩ := Option.bind_eq_some_iff.mp h
 have HG := aM G_
 clear G_
 cases t with
 | false =>
  rw [if_neg (by simp)] at h
  simp only [Option.some.injEq, Prod.mk.injEq] at h
  obtain ⟨rfl, rfl⟩ := h
  go_enter Tryd.func6, Tryd.ntmps6
  go_wp2_with (first | ((with_reducible refine gate_dst (N := 18) rfl ?_); refine Kd.R_lit Kd.string _ 9 ?hg (N := 18) ?hd (xs := ([a1, a2] : List ByteArray)) (inner := [.string a1, .string a2]) (ok := fun _ => True) (okp := fun _ => True) ?hr ?hp (fun _ hk => hk) trivial (Below.refl _ _) (Nat.le_refl _) (by simp) ?_; (case hd => rfl); (case hg => rfl); (case hr => first | (go_simp; done) | (go_simp; rfl)); (case hp => exact (Reps.one (show Kd.M Kd.string _ _ _ a1 [.string a1] from rfl) (Reps.one (show Kd.M Kd.string _ _ _ a2 [.string a2] from rfl) (Reps.none _ _)))); intro v8 w8 ho hb hg_ hnew_; clear hg_ hnew_; (first | rw [← NY.out] at ho | (simp only [Int.reduceToNat] at ho; rw [← NY.out] at ho)); have HO := aM ho; have HB := aM hb; clear hb ho; obtain ⟨Ao, co, eo⟩ := Kd.R_slice HO.out; subst eo) | ((with_reducible refine gate_callee (f := 29) rfl ?_); refine goesL_ (some 19) rfl rfl Tryd.func29 (by kernel_rfl) rfl #[.slice A0 l0.length c0, .slice Ao ys.length co] rfl (by (try simp only [List.map_toArray, List.map_cons, List.map_nil]); first | done | rfl) ?_; (with_reducible refine (impl_keyed.calls k _ _ l0 _ _ ys false _ ?side1 ?side2 ?side5 ?side6 HG.out).mono ?_); (case side1 => exact Kd.C_below HR0.out HB.out); (case side2 => exact HC0.out); (case side5 => exact (Kd.R_reads' HO.out).2.2); (case side6 => exact (Kd.R_reads' HO.out).2.1); rintro e w11 ⟨rfl, hb⟩; refine ⟨_, rfl, ?_⟩; have n2_ := aM (below_step HB.out hb); clear HB hb HO; have HB := n2_; clear n2_))
  go_ret2
  exact ⟨_, rfl, Kd.R_nil _ _ _ _ _, HB.out⟩
 | true =>
  rw [if_pos rfl] at h
  by_cases s1 : a1.size ≤ maxLen ∧ a2.size ≤ maxLen
  ·rw [if_pos s1] at h
   have HS := aM (show (a1.size ≤ maxLen ∧ a2.size ≤ maxLen) ∧ True from ⟨s1, trivial⟩)
   clear s1
   obtain ⟨q, Q_, h⟩ := Option.bind_eq_some_iff.mp h
   have HQ := aM Q_
   clear Q_
   obtain ⟨n, hn⟩ : ∃ n : Int, (q.2.1 a1).getD 0 = n := ⟨_, rfl⟩
   have N1 := aM hn
   clear hn
   by_cases z1 : (q.2.1 a1).isSome = true
   ·rw [if_pos z1] at h
    have N2 := aM z1
    have H' := aM h
    clear z1 h
    go_enter Tryd.func6, Tryd.ntmps6
    go_wp2_with (first | ((with_reducible refine gate_dst (N := 18) rfl ?_); refine Kd.R_lit Kd.string _ 9 ?hg (N := 18) ?hd (xs := ([a1, a2] : List ByteArray)) (inner := [.string a1, .string a2]) (ok := fun _ => True) (okp := fun _ => True) ?hr ?hp (fun _ hk => hk) trivial (Below.refl _ _) (Nat.le_refl _) (by simp) ?_; (case hd => rfl); (case hg => rfl); (case hr => first | (go_simp; done) | (go_simp; rfl)); (case hp => exact (Reps.one (show Kd.M Kd.string _ _ _ a1 [.string a1] from rfl) (Reps.one (show Kd.M Kd.string _ _ _ a2 [.string a2] from rfl) (Reps.none _ _)))); intro v8 w8 ho hb hg_ hnew_; clear hg_ hnew_; (first | rw [← NY.out] at ho | (simp only [Int.reduceToNat] at ho; rw [← NY.out] at ho)); have HO := aM ho; have HB := aM hb; clear hb ho; obtain ⟨Ao, co, eo⟩ := Kd.R_slice HO.out; subst eo) | ((with_reducible refine gate_callee (f := 29) rfl ?_); refine goesL_ (some 19) rfl rfl Tryd.func29 (by kernel_rfl) rfl #[.slice A0 l0.length c0, .slice Ao ys.length co] rfl (by (try simp only [List.map_toArray, List.map_cons, List.map_nil]); first | done | rfl) ?_; (with_reducible refine (impl_keyed.calls k _ _ l0 _ _ ys true _ ?side1 ?side2 ?side5 ?side6 HG.out).mono ?_); (case side1 => exact Kd.C_below HR0.out HB.out); (case side2 => exact HC0.out); (case side5 => exact (Kd.R_reads' HO.out).2.2); (case side6 => exact (Kd.R_reads' HO.out).2.1); rintro e w11 ⟨rfl, hb⟩; refine ⟨_, rfl, ?_⟩; have n2_ := aM (below_step HB.out hb); clear HB hb HO; have HB := n2_; clear n2_) | ((with_reducible refine gate_callee (f := 30) rfl ?_); refine goesL_ (some 23) rfl rfl Tryd.func30 (by kernel_rfl) rfl #[.slice A0 l0.length c0, .string a2] rfl (by (try simp only [List.map_toArray, List.map_cons, List.map_nil]); first | done | rfl) ?_; (with_reducible refine (impl_searchKeyed.calls k _ _ l0 a2 q _ ?side1 ?side2 ?side5 HQ.out).mono ?_); (case side1 => exact Kd.C_below HR0.out HB.out); (case side2 => exact HC0.out); (case side5 => exact HS.out.1.2); rintro e w13 ⟨gr, rfl, b1, b2, v, c, hS⟩; refine ⟨_, rfl, ?_⟩; obtain ⟨Av, cv, ev⟩ := Kd.R_slice hS.lst; subst ev; have SS := aM (hS.rebase HB.out); clear hS; have hx0 : w13.cell? ⟨gr, 0, none⟩ = some (.slice Av q.1.length cv) := (blk_cell SS.out.blk 0).trans rfl; have hx1 : w13.cell? ⟨gr, 1, none⟩ = some (.map (some b1)) := (blk_cell SS.out.blk 1).trans rfl; have hx2 : w13.cell? ⟨gr, 2, none⟩ = some (.map (some b2)) := (blk_cell SS.out.blk 2).trans rfl) | (at_lookup; refine MapS.look2_v SS.out.far N1.out N2.out HS.out.1.1 rfl _ _ rfl rfl rfl ?_))
    go_loopg [1, 11] k (fun kq v1 v11 w' => ∃ (s : ByteArray) (x : List Int), v1 = .string s ∧ Aside0 (impl_FirstKeyed.l0 l0 q.2.1 a2 kq s x = some (r1, r2)) ∧ Aside0 (kq ≤ k) ∧ Aside0 (Kd.R (Kd.int .i64) 3 w' w.heap.size (fun _ => True) v11 x) ∧ Aside0 (impl_searched.St w w' gr b1 b2 (fun _ => True) (.slice Av q.1.length cv) q.1 q.2.1 q.2.2 c))
    case atStart => exact ⟨a1, [], rfl, H', ⟨Nat.le_refl _⟩, ⟨Kd.R_nil _ _ _ _ _⟩, SS⟩
    case round =>
     clear H' SS hx0 hx1 hx2
     obtain ⟨s, x, rfl, HA, HK1, HX, SS⟩ := hrel
     cases gk with
     | zero => exact absurd HA.out (by simp [impl_FirstKeyed.l0])
     | succ k1 =>
      have H := HA.out
      clear HA
      simp only [impl_FirstKeyed.l0] at H
      by_cases c1 : s.toList = a2.toList
      ·rw [if_pos c1] at H
       have c1b : (s.toList == a2.toList) = true := beq_iff_eq.mpr c1
       clear c1
       simp only [Option.some.injEq, Prod.mk.injEq] at H
       obtain ⟨rfl, rfl⟩ := H
       go_wp2
       go_ret2
       exact ⟨_, rfl, HX.out, SS.out.bel⟩
      ·rw [if_neg c1] at H
       have c1b : (s.toList == a2.toList) = false := beq_eq_false_iff_ne.mpr c1
       clear c1
       obtain ⟨ms, M_, H⟩ := Option.bind_eq_some_iff.mp H
       have HM0 := aM M_
       have H' := aM H
       clear M_ H
       go_wp2_with (first | ((with_reducible refine gate_callee (f := 31) rfl ?_); refine goesL_ (some 40) rfl rfl Tryd.func31 (by kernel_rfl) rfl #[.slice A0 l0.length c0, .string s] rfl (by (try simp only [List.map_toArray, List.map_cons, List.map_nil]); first | done | rfl) ?_; (with_reducible refine (impl_keyedMoves.calls k1 _ _ l0 s ms _ ?side1 ?side2 HM0.out).mono ?_); (case side1 => exact Kd.C_below HR0.out SS.out.bel); (case side2 => exact HC0.out); rintro e w6 ⟨vm, rfl, hm, hb⟩; refine ⟨_, rfl, ?_⟩; obtain ⟨Am, cm, em⟩ := Kd.R_slice hm; subst em; have HM := aM (Kd.R_lower hm SS.out.bel.size); have n0 := aM (Kd.R_below HX.out hb); have n1 := aM (SS.out.below hb); clear HX SS hm hb; have HX := n0; have SS := n1; clear n0 n1))
       go_loopg [1, 11, 42] k1 (fun kq v1 v11 v42 w' => ∃ (s : ByteArray) (x : List Int) (i : Int), v1 = .string s ∧ v42 = .int .i64 i ∧ Aside0 (impl_FirstKeyed.l1 l0 q.2.1 a2 kq s x ms i = some (r1, r2)) ∧ Aside0 (kq ≤ k1) ∧ Aside0 (Kd.R (Kd.int .i64) 3 w' w.heap.size (fun _ => True) v11 x) ∧ Aside0 (Kd.R (Kd.int .i64) 3 w' w.heap.size (fun _ => True) (.slice Am ms.length cm) ms) ∧ Aside0 (impl_searched.St w w' gr b1 b2 (fun _ => True) (.slice Av q.1.length cv) q.1 q.2.1 q.2.2 c))
       case atStart => exact ⟨s, x, 0, rfl, rfl, H', ⟨Nat.le_refl _⟩, HX, HM, SS⟩
       case round =>
        clear H' HX HM SS HM0
        obtain ⟨s, x, i, rfl, rfl, HA, HK2, HX, HM, SS⟩ := hrel
        cases gk with
        | zero => exact absurd HA.out (by simp [impl_FirstKeyed.l1])
        | succ k2 =>
         have H := HA.out
         clear HA
         simp only [impl_FirstKeyed.l1] at H
         by_cases c4 : i < (ms.length : Int)
         ·rw [if_pos c4] at H
          have c4b0 : decide (i < (ms.length : Int)) = true := decide_eq_true c4
          by_cases c5 : 0 ≤ i
          ·rw [if_pos c5] at H
           have c5b0 : decide (0 ≤ i) = true := decide_eq_true c5
           obtain ⟨t, A2_, H⟩ := Option.bind_eq_some_iff.mp H
           have A2 := aM A2_
           clear A2_
           by_cases c6 : s.size ≤ maxLen ∧ t.size ≤ maxLen ∧ x.length < 8796093022208
           ·rw [if_pos c6] at H
            have LM := aM c6
            clear c6
            obtain ⟨ad, ea, hx0⟩ := Kd.at_int (Kd.R_reads' HM.out).2.2 i c5 c4
            cases ea
            have q4 := eq_true c4
            have q5 := eq_true c5
            clear c4 c5
            obtain ⟨m1, hm1⟩ : ∃ m, (q.2.1 t).getD 0 = m := ⟨_, rfl⟩
            obtain ⟨m2, hm2⟩ : ∃ m, (q.2.1 s).getD 0 = m := ⟨_, rfl⟩
            rw [hm1, hm2] at H
            have NT := aM hm1
            have NS := aM hm2
            clear hm1 hm2
            go_wp2_with (first | ((with_reducible refine gate_callee (f := 32) rfl ?_); refine goesL_ (some 48) rfl rfl Tryd.func32 (by kernel_rfl) rfl #[.string s, .int .i64 (rd ms i)] rfl (by (try simp only [List.map_toArray, List.map_cons, List.map_nil]); first | done | rfl) ?_; (with_reducible refine (impl_turned.calls s (rd ms i) t _ A2.out).mono ?_); rintro e w18 ⟨rfl, hb⟩; refine ⟨_, rfl, ?_⟩; have HW := aM hb; clear hb))
            have n0 := aM (Kd.R_below HX.out HW.out)
            have n1 := aM (SS.out.below HW.out)
            have n3 := aM (Kd.R_below HM.out HW.out)
            clear HX SS HM
            have HX := n0
            have SS := n1
            have HM := n3
            clear n0 n1 n3 HW hx0
            have hz1 : w18.cell? ⟨gr, 1, none⟩ = some (.map (some b1)) := (blk_cell SS.out.blk 1).trans rfl
            have hl1 := MapS.M_look (MapS.M_drew SS.out.far) t LM.out.2.1
            have hl2 := MapS.M_look (MapS.M_drew SS.out.far) s LM.out.1
            rw [NT.out] at hl1
            rw [NS.out] at hl2
            by_cases c7 : m1 = wrap64 (m2 - 1)
            ·rw [if_pos c7] at H
             have c7b : (m1 == wrap64 (m2 - 1)) = true := beq_iff_eq.mpr c7
             clear c7
             have H' := aM H
             clear H
             have m0 := aM (Kd.R_drew HX.out)
             have m3 := aM (SS.out.below (Below.refl _ _).drew)
             go_region
             all_goals generalize w18.drew = w19 at m0 m3 ⊢
             all_goals clear HX SS HM hz1 hl1 hl2
             all_goals have HX := m0
             all_goals have SS := m3
             all_goals clear m0 m3
             all_goals (go_wp2_with (first | ((with_reducible refine gate_builtin (b := .append) (xs := #[.tmp 63, .tmp 65]) rfl ?_); at_builtin; have S1 := SS.out; have HD := HX.out; refine Kd.R_append (Kd.int .i64) (w0 := w) w.heap.size rfl (.tmp 63) (.tmp 65) 27 3 (.int .i64 0) 8 rfl Tryd.underlying27 info3 rfl (by decide) (by omega) u11 x (rd ms i) [.int .i64 (rd ms i)] (fun _ => True) (fun _ => False) rfl rfl ?aP (fun _ hk => hk.elim) ?aF ?aO ?aB ?aS ?aL ?_; (case aP => exact rfl); (case aB => exact S1.bel); (case aF => exact (fun _ _ => trivial)); (case aO => exact HD); (case aS => exact S1.bel.size); (case aL => have := LM.out.2.2; omega); intro v2 w20 ho hb hg hat; have n1 := aM (show impl_searched.St w w20 gr b1 b2 (fun _ => True) (.slice Av q.1.length cv) q.1 q.2.1 q.2.2 c from ⟨Kd.R_mono (Kd.R_over' S1.lst (Kd.R_typed HD) (by decide) hg) (fun _ _ => trivial), blk_grown S1.blk hg (Kd.R_ne HD S1.blk (by decide)), MapS.M_grown S1.far hg (fun e => by obtain ⟨cells, hc⟩ := Kd.R_typed HD _ e.symm; exact MapS.M_apart S1.far hc rfl), MapS.M_grown S1.way hg (fun e => by obtain ⟨cells, hc⟩ := Kd.R_typed HD _ e.symm; exact MapS.M_apart S1.way hc rfl), S1.ge, hb⟩); have n0 := aM ho; clear HX SS ho hb hg hat S1 HD; have HX := n0; have SS := n1; clear n0 n1)))
             all_goals (go_roundg k2; (case measure => have := HK1.out; have := HK2.out; omega); (case rel => exact ⟨t, x ++ [rd ms i], rfl, H', ⟨by have := HK1.out; have := HK2.out; omega⟩, ⟨Kd.R_mono HX.out (fun _ _ => trivial)⟩, SS⟩))
            ·rw [if_neg c7] at H
             have c7b : (m1 == wrap64 (m2 - 1)) = false := beq_eq_false_iff_ne.mpr c7
             clear c7
             have H' := aM H
             clear H
             go_region
             all_goals go_wp2
             all_goals (go_roundg k2; (case measure => have := HK1.out; have := HK2.out; omega); (case rel => exact ⟨s, x, wrap64 (i + 1), rfl, rfl, H', ⟨by have := HK1.out; have := HK2.out; omega⟩, ⟨Kd.R_drew HX.out⟩, ⟨Kd.R_drew HM.out⟩, ⟨SS.out.below (Below.refl _ _).drew⟩⟩))
           ·rw [if_neg c6] at H
            cases H
          ·rw [if_neg c5] at H
           cases H
         ·rw [if_neg c4] at H
          have c4b0 : decide (i < (ms.length : Int)) = false := decide_eq_false c4
          clear c4
          have H' := aM H
          clear H
          go_wp2
          go_roundg k2
          case measure => have := HK1.out; have := HK2.out; omega
          case rel => exact ⟨s, x, rfl, H', ⟨by have := HK1.out; have := HK2.out; omega⟩, HX, SS⟩
   ·rw [if_neg z1] at h
    have N2 := aM (Bool.eq_false_iff.mpr z1)
    clear z1
    simp only [Option.some.injEq, Prod.mk.injEq] at h
    obtain ⟨rfl, rfl⟩ := h
    go_enter Tryd.func6, Tryd.ntmps6
    go_wp2_with (first | ((with_reducible refine gate_dst (N := 18) rfl ?_); refine Kd.R_lit Kd.string _ 9 ?hg (N := 18) ?hd (xs := ([a1, a2] : List ByteArray)) (inner := [.string a1, .string a2]) (ok := fun _ => True) (okp := fun _ => True) ?hr ?hp (fun _ hk => hk) trivial (Below.refl _ _) (Nat.le_refl _) (by simp) ?_; (case hd => rfl); (case hg => rfl); (case hr => first | (go_simp; done) | (go_simp; rfl)); (case hp => exact (Reps.one (show Kd.M Kd.string _ _ _ a1 [.string a1] from rfl) (Reps.one (show Kd.M Kd.string _ _ _ a2 [.string a2] from rfl) (Reps.none _ _)))); intro v8 w8 ho hb hg_ hnew_; clear hg_ hnew_; (first | rw [← NY.out] at ho | (simp only [Int.reduceToNat] at ho; rw [← NY.out] at ho)); have HO := aM ho; have HB := aM hb; clear hb ho; obtain ⟨Ao, co, eo⟩ := Kd.R_slice HO.out; subst eo) | ((with_reducible refine gate_callee (f := 29) rfl ?_); refine goesL_ (some 19) rfl rfl Tryd.func29 (by kernel_rfl) rfl #[.slice A0 l0.length c0, .slice Ao ys.length co] rfl (by (try simp only [List.map_toArray, List.map_cons, List.map_nil]); first | done | rfl) ?_; (with_reducible refine (impl_keyed.calls k _ _ l0 _ _ ys true _ ?side1 ?side2 ?side5 ?side6 HG.out).mono ?_); (case side1 => exact Kd.C_below HR0.out HB.out); (case side2 => exact HC0.out); (case side5 => exact (Kd.R_reads' HO.out).2.2); (case side6 => exact (Kd.R_reads' HO.out).2.1); rintro e w11 ⟨rfl, hb⟩; refine ⟨_, rfl, ?_⟩; have n2_ := aM (below_step HB.out hb); clear HB hb HO; have HB := n2_; clear n2_) | ((with_reducible refine gate_callee (f := 30) rfl ?_); refine goesL_ (some 23) rfl rfl Tryd.func30 (by kernel_rfl) rfl #[.slice A0 l0.length c0, .string a2] rfl (by (try simp only [List.map_toArray, List.map_cons, List.map_nil]); first | done | rfl) ?_; (with_reducible refine (impl_searchKeyed.calls k _ _ l0 a2 q _ ?side1 ?side2 ?side5 HQ.out).mono ?_); (case side1 => exact Kd.C_below HR0.out HB.out); (case side2 => exact HC0.out); (case side5 => exact HS.out.1.2); rintro e w13 ⟨gr, rfl, b1, b2, v, c, hS⟩; refine ⟨_, rfl, ?_⟩; obtain ⟨Av, cv, ev⟩ := Kd.R_slice hS.lst; subst ev; have SS := aM (hS.rebase HB.out); clear hS; have hx0 : w13.cell? ⟨gr, 0, none⟩ = some (.slice Av q.1.length cv) := (blk_cell SS.out.blk 0).trans rfl; have hx1 : w13.cell? ⟨gr, 1, none⟩ = some (.map (some b1)) := (blk_cell SS.out.blk 1).trans rfl; have hx2 : w13.cell? ⟨gr, 2, none⟩ = some (.map (some b2)) := (blk_cell SS.out.blk 2).trans rfl) | (at_lookup; refine MapS.look2_v SS.out.far N1.out N2.out HS.out.1.1 rfl _ _ rfl rfl rfl ?_))
    go_ret2
    exact ⟨_, rfl, Kd.R_nil _ _ _ _ _, SS.out.bel⟩
  ·rw [if_neg s1] at h
   cases h

end Go.Proofs.YtdgpkdgpmidaoaaDoor.PK
