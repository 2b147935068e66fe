-- written by a program of this session's (wip/tools), over the kit's print
import Derived.Test.YtppbohghongfmaaDoorPNx0
import Derived.Test.YtppbohghongfmaaDoorPNx1
import Derived.Test.YtppbohghongfmaaDoorPNx2
import Derived.Test.YtppbohghongfmaaDoorPNx4
import Derived.Test.YtppbohghongfmaaDoorPNx5
import Derived.Test.YtppbohghongfmaaDoorPNx9
-- squeezed
-- squeezed twice
namespace Go.Proofs.YtppbohghongfmaaDoor.PN
open Go.RowKit Go.Proofs.YtppbohghongfmaaDoorW.PrintWords Go.Proofs.YtppbohghongfmaaDoorW.PrintLast Go.Proofs.YtppbohghongfmaaDoorW.PrintMore
attribute [local go_sem] max2_int min2_int max_two min_two max_three min_three max_four min_four   -- for this text's walks alone
set_option linter.unusedVariables false
set_option linter.unusedSimpArgs false

/-! ### spec_PlayPairMoves: function 22 -/
mutual
def spec_PlayPairMoves.j0 : Nat → ByteArray → List Int → Bool → Option (ByteArray × Bool)
 | 0, _, _, _ => none
 | k + 1, x0, x1, x15 => if x15 = true then (some ((⟨#[]⟩ : ByteArray), false)) else (spec_PlayPairMoves.l0 k x0 x1 (x1.length : Int) 0)
def spec_PlayPairMoves.l0 : Nat → ByteArray → List Int → Int → Int → Option (ByteArray × Bool)
 | 0, _, _, _, _ => none
 | k + 1, x0, x16, x17, x18 => if x18 < x17 then (if 0 ≤ x18 then (if x18 < (x16.length : Int) then ((spec_twMoves.f k x0).bind fun t482 => ((spec_l1Has.f k t482 (rd x16 x18)).bind fun t485 => (if t485 = true then ((spec_twMake.f x0 (rd x16 x18)).bind fun t486 => (spec_PlayPairMoves.l0 k t486 x16 x17 (wrap64 (x18 + 1)))) else (some ((⟨#[]⟩ : ByteArray), false))))) else (none)) else (none)) else (some (x0, true))
end
def spec_PlayPairMoves.f (k : Nat) (a0 : ByteArray) (l1 : List Int) : Option (ByteArray × Bool) := (spec_twGood.f k a0).bind fun t480 => (if t480 = true then (spec_PlayPairMoves.j0 k a0 l1 (decide ((l1.length : Int) > 2000))) else (spec_PlayPairMoves.j0 k a0 l1 true))
theorem spec_PlayPairMoves.mono_l : ∀ k, (∀ y0 y1 y2, LeO (spec_PlayPairMoves.j0 k y0 y1 y2) (spec_PlayPairMoves.j0 (k + 1) y0 y1 y2)) ∧ (∀ y0 y1 y2 y3, LeO (spec_PlayPairMoves.l0 k y0 y1 y2 y3) (spec_PlayPairMoves.l0 (k + 1) y0 y1 y2 y3))
 | 0 => ⟨fun _ _ _ r h => by simp [spec_PlayPairMoves.j0] at h, fun _ _ _ _ r h => by simp [spec_PlayPairMoves.l0] at h⟩
 | k + 1 => by
  obtain ⟨ih0, ih1⟩ := spec_PlayPairMoves.mono_l k
  refine ⟨?_, ?_⟩
  ·intro y0 y1 y2
   unfold spec_PlayPairMoves.j0
   with_reducible repeat' first | exact ih0 _ _ _ | exact ih1 _ _ _ _ | exact spec_l1Has.mono _ _ _ | exact spec_twGood.mono _ _ | exact spec_twMoves.mono _ _ | exact LeO.refl _ | exact LeO.none _ | refine LeO.ite ?_ ?_ | refine LeO.bind ?_ (fun _ => ?_)
  ·intro y0 y1 y2 y3
   unfold spec_PlayPairMoves.l0
   with_reducible repeat' first | exact ih0 _ _ _ | exact ih1 _ _ _ _ | exact spec_l1Has.mono _ _ _ | exact spec_twGood.mono _ _ | exact spec_twMoves.mono _ _ | exact LeO.refl _ | exact LeO.none _ | refine LeO.ite ?_ ?_ | refine LeO.bind ?_ (fun _ => ?_)
theorem spec_PlayPairMoves.mono : ∀ a0 a1 k, LeO (spec_PlayPairMoves.f k a0 a1) (spec_PlayPairMoves.f (k + 1) a0 a1) := by
 intro a0 a1 k
 obtain ⟨ih0, ih1⟩ := spec_PlayPairMoves.mono_l k
 unfold spec_PlayPairMoves.f
 with_reducible repeat' first | exact ih0 _ _ _ | exact ih1 _ _ _ _ | exact spec_l1Has.mono _ _ _ | exact spec_twGood.mono _ _ | exact spec_twMoves.mono _ _ | exact LeO.refl _ | exact LeO.none _ | refine LeO.ite ?_ ?_ | refine LeO.bind ?_ (fun _ => ?_)
set_option maxHeartbeats 8000000 in
set_option maxRecDepth 100000 in
theorem spec_PlayPairMoves.calls (k : Nat) (a0 : ByteArray) (A1 : Option Addr) (c1 : Nat) (l1 : List Int) (r1 : ByteArray) (r2 : Bool) (w : World) (hr1 : Kd.C (Kd.int .i64) w A1 l1.length l1) (hc1 : l1.length ≤ c1) (h : spec_PlayPairMoves.f k a0 l1 = some (r1, r2)) :
  Calls Tryd.prog 22 #[.string a0, .slice A1 l1.length c1] w fun e w' => e = .returned (.tuple #[.string r1, .bool r2]) ∧ Below w.heap.size w w' := by
 have HR1 := aM hr1
 have HC1 := aM hc1
 clear hr1 hc1
 have HB := aM (Below.refl w.heap.size w)
 have H := h; clear h; unfold spec_PlayPairMoves.f at H
 have HC3 := aM H
 clear H
 go_enter Tryd.func22, Tryd.ntmps22
 go_upto_region 1 with (fail)
 go_cut [15] (fun v15 wc => ∃ (kq : Nat) (x15_2 : Bool), v15 = .bool x15_2 ∧ Aside0 (spec_PlayPairMoves.j0 kq a0 l1 x15_2 = some (r1, r2)) ∧ Aside0 (kq ≤ k) ∧ Aside0 (Below w.heap.size w wc))
 case first =>
  have H := HC3.out
  clear HC3
  replace H := jS H; obtain ⟨t480, A4, H⟩ := H
  by_cases c5 : t480 = true
  ·subst c5
   replace H := jT H
   have H' := aM H
   clear H
   go_wp2_with (first | ((with_reducible refine gC 48 rfl ?_); refine gL (some 9) Tryd.func48 #[.string a0] ?_; (with_reducible refine (spec_twGood.calls k a0 true _ A4.out).mono ?_); rintro e w' ⟨rfl, ⟨nd, rfl⟩⟩; refine ⟨_, rfl, ?_⟩))
   go_meet
   case rel => exact ⟨_, (decide ((l1.length : Int) > 2000)), rfl, H', ⟨by omega⟩, ⟨bQ⟩⟩
  ·replace c5 := Bool.eq_false_iff.mpr c5
   subst c5
   replace H := jF H
   have H' := aM H
   clear H
   go_wp2_with (first | ((with_reducible refine gC 48 rfl ?_); refine gL (some 9) Tryd.func48 #[.string a0] ?_; (with_reducible refine (spec_twGood.calls k a0 false _ A4.out).mono ?_); rintro e w' ⟨rfl, ⟨nd, rfl⟩⟩; refine ⟨_, rfl, ?_⟩))
   go_meet
   case rel => exact ⟨_, (true), rfl, H', ⟨by omega⟩, ⟨bQ⟩⟩
 case rest =>
  clear HC3
  obtain ⟨kq, x15_2, rfl, HA, HJ2, HB⟩ := hcut
  cases kq with
  | zero => exact absurd HA.out (by simp [spec_PlayPairMoves.j0])
  | succ kj2 =>
   have H := HA.out
   clear HA
   simp only [spec_PlayPairMoves.j0] at H
   by_cases c6 : x15_2 = true
   ·subst c6
    replace H := jT H
    simp only [Option.some.injEq, Prod.mk.injEq] at H
    obtain ⟨rfl, rfl⟩ := H
    go_wp2
    go_ret2
    exact ⟨rfl, HB.out⟩
   ·replace c6 := Bool.eq_false_iff.mpr c6
    subst c6
    replace H := jF H
    have H' := aM H
    clear H
    go_wp2
    go_loopg [0, 18] kj2 (fun kq v0 v18 w' => ∃ (x0_2 : ByteArray) (x18_2 : Int), v0 = .string x0_2 ∧ v18 = .int .i64 x18_2 ∧ Aside0 (spec_PlayPairMoves.l0 kq x0_2 l1 (l1.length : Int) x18_2 = some (r1, r2)) ∧ Aside0 (kq ≤ kj2) ∧ Aside0 (Below w.heap.size w w'))
    case atStart => exact ⟨(a0), (0), rfl, rfl, H', ⟨Nat.le_refl _⟩, HB⟩
    case round =>
     clear H'
     obtain ⟨x0_2, x18_2, rfl, rfl, HA, HK2, HB⟩ := hrel
     cases gk with
     | zero => exact absurd HA.out (by simp [spec_PlayPairMoves.l0])
     | succ k2 =>
      have H := HA.out
      clear HA
      simp only [spec_PlayPairMoves.l0] at H
      replace H := iO H; obtain ⟨c7, H⟩ | ⟨c7, H⟩ := H
      ·have c7b0 := decide_eq_true c7
       clear c7
       replace H := iC H; obtain ⟨c8, H⟩ := H
       have c8b0 := decide_eq_true c8
       clear c8
       replace H := iN H; obtain ⟨c9b0, H⟩ := H
       replace H := jS H; obtain ⟨t482, A10, H⟩ := H
       replace H := jS H; obtain ⟨t485, A11, H⟩ := H
       by_cases c12 : t485 = true
       ·subst c12
        replace H := jT H
        replace H := jS H; obtain ⟨t486, A13, H⟩ := H
        have H' := aM H
        clear H; have p481 : 0 ≤ (x18_2 : Int) := oD; have q481 : x18_2 < (l1.length : Int) := oD; obtain ⟨ad481, e481, hx481_0⟩ := Kd.at_int HR1.out x18_2 p481 q481; cases e481
        replace hx481_0 := (HB.out.cell (World.block_lt_of_cell? w _ hx481_0)).trans hx481_0
        replace p481 := eq_true p481; replace q481 := eq_true q481
        go_wp2_with (first | ((with_reducible refine gC 50 rfl ?_); refine gL (some 23) Tryd.func50 #[.string x0_2] ?_; (with_reducible refine (spec_twMoves.calls k2 x0_2 t482 _ A10.out).mono ?_); rintro e w14 ⟨v483, rfl, ho0, hb⟩; refine ⟨_, rfl, ?_⟩; have HO484 := aM (Kd.R_lower ho0 (below_size HB.out)); replace HB := aM (below_step HB.out hb); (try clear hb); (try clear ho0); obtain ⟨Ao15, co15, eo15⟩ := Kd.R_slice HO484.out; subst eo15) | ((with_reducible refine gC 49 rfl ?_); refine gL (some 25) Tryd.func49 #[.slice Ao15 t482.length co15, .int .i64 (rd l1 x18_2)] ?_; (with_reducible refine (spec_l1Has.calls k2 _ _ t482 (rd l1 x18_2) true _ ?side1 ?side2 A11.out).mono ?_); (case side1 => repeat (first | exact (Kd.R_reads' HO484.out).2.2 | (with_reducible refine cA ?_ _) | (with_reducible refine cN ?_ _) | (with_reducible refine cD ?_))); (case side2 => exact (Kd.R_reads' HO484.out).2.1); rintro e w' ⟨rfl, ⟨nd, rfl⟩⟩; refine ⟨_, rfl, ?_⟩) | ((with_reducible refine gC 51 rfl ?_); refine gL (some 29) Tryd.func51 #[.string x0_2, .int .i64 (rd l1 x18_2)] ?_; (with_reducible refine (spec_twMake.calls x0_2 (rd l1 x18_2) t486 _ A13.out).mono ?_); rintro e w' ⟨rfl, ⟨nd, rfl⟩⟩; refine ⟨_, rfl, ?_⟩))
        go_roundg k2
        case measure => have := HJ2.out; have := HK2.out; omega
        case rel => exact ⟨(t486), (wrap64 (x18_2 + 1)), rfl, rfl, H', ⟨by have := HJ2.out; have := HK2.out; omega⟩, ⟨bQ⟩⟩
       ·replace c12 := Bool.eq_false_iff.mpr c12
        subst c12
        replace H := jF H
        simp only [Option.some.injEq, Prod.mk.injEq] at H
        obtain ⟨rfl, rfl⟩ := H
        have p481 : 0 ≤ (x18_2 : Int) := oD; have q481 : x18_2 < (l1.length : Int) := oD; obtain ⟨ad481, e481, hx481_0⟩ := Kd.at_int HR1.out x18_2 p481 q481; cases e481
        replace hx481_0 := (HB.out.cell (World.block_lt_of_cell? w _ hx481_0)).trans hx481_0
        replace p481 := eq_true p481; replace q481 := eq_true q481
        go_wp2_with (first | ((with_reducible refine gC 50 rfl ?_); refine gL (some 23) Tryd.func50 #[.string x0_2] ?_; (with_reducible refine (spec_twMoves.calls k2 x0_2 t482 _ A10.out).mono ?_); rintro e w16 ⟨v483, rfl, ho0, hb⟩; refine ⟨_, rfl, ?_⟩; have HO484 := aM (Kd.R_lower ho0 (below_size HB.out)); replace HB := aM (below_step HB.out hb); (try clear hb); (try clear ho0); obtain ⟨Ao17, co17, eo17⟩ := Kd.R_slice HO484.out; subst eo17) | ((with_reducible refine gC 49 rfl ?_); refine gL (some 25) Tryd.func49 #[.slice Ao17 t482.length co17, .int .i64 (rd l1 x18_2)] ?_; (with_reducible refine (spec_l1Has.calls k2 _ _ t482 (rd l1 x18_2) false _ ?side1 ?side2 A11.out).mono ?_); (case side1 => repeat (first | exact (Kd.R_reads' HO484.out).2.2 | (with_reducible refine cA ?_ _) | (with_reducible refine cN ?_ _) | (with_reducible refine cD ?_))); (case side2 => exact (Kd.R_reads' HO484.out).2.1); rintro e w' ⟨rfl, ⟨nd, rfl⟩⟩; refine ⟨_, rfl, ?_⟩))
        go_ret2
        exact ⟨rfl, bQ⟩
      ·have c7b0 := decide_eq_false c7
       clear c7
       simp only [Option.some.injEq, Prod.mk.injEq] at H
       obtain ⟨rfl, rfl⟩ := H
       go_wp2
       go_ret2
       exact ⟨rfl, HB.out⟩

/-! ### spec_DrawPairMovesOf: function 23 (told by hand) -/
def spec_DrawPairMovesOf.g (k : Nat) (s0_0 : List Int) (s0_1 : Int) (s0_2 : Int) : Option (ByteArray × Int × Int) := (spec_l1Cur_pair.f k s0_0 s0_1 s0_2).bind fun bt505 => (some (bt505.1, bt505.2.2.1, bt505.2.2.2))
def spec_DrawPairMovesOf.f (k : Nat) (l0 : List Int) : Option (ByteArray) := (spec_DrawPairMovesOf.g k l0 0 0).bind fun b_ => some (b_.1)
theorem spec_DrawPairMovesOf.mono_g : ∀ a0 a1 a2 k, LeO (spec_DrawPairMovesOf.g k a0 a1 a2) (spec_DrawPairMovesOf.g (k + 1) a0 a1 a2) := by
 intro a0 a1 a2 k
 unfold spec_DrawPairMovesOf.g
 with_reducible repeat' first | exact spec_l1Cur_pair.mono _ _ _ _ | exact LeO.refl _ | exact LeO.none _ | refine LeO.ite ?_ ?_ | refine LeO.bind ?_ (fun _ => ?_)
theorem spec_DrawPairMovesOf.mono : ∀ a0 k, LeO (spec_DrawPairMovesOf.f k a0) (spec_DrawPairMovesOf.f (k + 1) a0) := fun a0 k => LeO.bind (spec_DrawPairMovesOf.mono_g a0 0 0 k) (fun _ => LeO.refl _)
set_option maxHeartbeats 8000000 in
set_option maxRecDepth 100000 in
theorem spec_DrawPairMovesOf.calls (k : Nat) (A0 : Option Addr) (c0 : Nat) (l0 : List Int) (r : ByteArray) (w : World) (hr0 : Kd.C (Kd.int .u8) w A0 l0.length l0) (hc0 : l0.length ≤ c0) (h : spec_DrawPairMovesOf.f k l0 = some r) :
  Calls Tryd.prog 23 #[.slice A0 l0.length c0] w fun e w' => e = .returned (.string r) ∧ Below w.heap.size w w' := by
 replace h := Option.bind_eq_some_iff.mp h
 obtain ⟨⟨q1_, q2_, q3_⟩, h, hr_⟩ := h
 obtain rfl := Option.some.inj hr_
 have hI : IsS60 w (w.alloc (.cells #[.slice A0 l0.length c0, .int .i64 0, .int .u64 0] 60)) w.heap.size l0 0 0 := IsS60.new w w A0 c0 l0 0 0 (Below.refl _ _) hr0
 have hB : Below w.heap.size w (w.alloc (.cells #[.slice A0 l0.length c0, .int .i64 0, .int .u64 0] 60)) := by (apply below_alloc; exact Below.refl _ _)
 have HI0 := aM hI
 have HK := aM (KeepBut.refl (w.alloc (.cells #[.slice A0 l0.length c0, .int .i64 0, .int .u64 0] 60)) w.heap.size none)
 have HL := aM hB.size
 clear hI
 have HW0 := aM hB.size
 have HB := aM hB
 clear hB
 have H : ((spec_l1Cur_pair.f k l0 0 0).bind fun bt505 => (some (bt505.1, bt505.2.2.1, bt505.2.2.2))) = some (q1_, q2_, q3_) := h
 clear h
 replace H := Option.bind_eq_some_iff.mp H
 obtain ⟨⟨t505, t506, t507, t508⟩, A20, H⟩ := H
 replace H : (some (t505, t507, t508)) = some (q1_, q2_, q3_) := H
 have A2 := aM A20
 clear A20
 simp only [Option.some.injEq, Prod.mk.injEq] at H
 obtain ⟨rfl, rfl, rfl⟩ := H
 go_enter Tryd.func23, Tryd.ntmps23
 go_wp2_with (first | ((with_reducible refine gC 45 rfl ?_); refine gL (some 11) Tryd.func45 #[.pointer (some ⟨w.heap.size, 0, none⟩)] ?_; (with_reducible refine (spec_l1Cur_pair.calls k w.heap.size l0 0 0 t505 t506 t507 t508 w _ ?side1 ?side2 A2.out).mono ?_); (case side1 => repeat (first | (with_reducible first | exact HI0.out | apply IsS60.alloc | apply IsS60.drewN | apply IsS60.drew | apply IsS60.set_1 | apply IsS60.set_2) | exact HI0.out)); (case side2 => repeat (first | (with_reducible first | exact HB.out | apply bA | apply bN | apply bD | refine bS ?_ (IsS60.ge HI0.out)) | exact HB.out)); rintro e w3 ⟨rfl, hi, hb, hk⟩; refine ⟨_, rfl, ?_⟩; replace HK := aM (KeepBut.trans HK.out hk (.inl rfl)); replace HB := aM (hb); replace HI0 := aM (hi); (try clear hb)))
 go_ret
 exact ⟨rfl, by repeat (first | (with_reducible first | exact HB.out | apply bA | apply bN | apply bD | refine bS ?_ (IsS60.ge HI0.out)) | exact HB.out)⟩

/-! ### spec_PairMovesOf: function 24 -/
def spec_PairMovesOf.f (k : Nat) (a0 : ByteArray) : Option (List Int × Bool) := (spec_twGood.f k a0).bind fun t487 => (if t487 = true then ((spec_twMoves.f k a0).bind fun t488 => (some (t488, true))) else (some (([] : List Int), false)))
theorem spec_PairMovesOf.mono : ∀ a0 k, LeO (spec_PairMovesOf.f k a0) (spec_PairMovesOf.f (k + 1) a0) := by
 intro a0 k
 unfold spec_PairMovesOf.f
 with_reducible repeat' first | exact spec_twGood.mono _ _ | exact spec_twMoves.mono _ _ | exact LeO.refl _ | exact LeO.none _ | refine LeO.ite ?_ ?_ | refine LeO.bind ?_ (fun _ => ?_)
set_option maxHeartbeats 8000000 in
set_option maxRecDepth 100000 in
theorem spec_PairMovesOf.calls (k : Nat) (a0 : ByteArray) (r1 : List Int) (r2 : Bool) (w : World) (h : spec_PairMovesOf.f k a0 = some (r1, r2)) :
  Calls Tryd.prog 24 #[.string a0] w fun e w' => ∃ v0_ : Value, e = .returned (.tuple #[v0_, .bool r2]) ∧ Kd.R (Kd.int .i64) 3 w' w.heap.size (fun _ => True) v0_ r1 ∧ Below w.heap.size w w' := by
 have HB := aM (Below.refl w.heap.size w)
 have H := h; clear h; unfold spec_PairMovesOf.f at H
 replace H := jS H; obtain ⟨t487, A2, H⟩ := H
 by_cases c3 : t487 = true
 ·subst c3
  replace H := jT H
  replace H := jS H; obtain ⟨t488, A4, H⟩ := H
  simp only [Option.some.injEq, Prod.mk.injEq] at H
  obtain ⟨rfl, rfl⟩ := H
  go_enter Tryd.func24, Tryd.ntmps24
  go_wp2_with (first | ((with_reducible refine gC 48 rfl ?_); refine gL (some 5) Tryd.func48 #[.string a0] ?_; (with_reducible refine (spec_twGood.calls k a0 true _ A2.out).mono ?_); rintro e w' ⟨rfl, ⟨nd, rfl⟩⟩; refine ⟨_, rfl, ?_⟩) | ((with_reducible refine gC 50 rfl ?_); refine gL (some 8) Tryd.func50 #[.string a0] ?_; (with_reducible refine (spec_twMoves.calls k a0 t488 _ A4.out).mono ?_); rintro e w5 ⟨v489, rfl, ho0, hb⟩; refine ⟨_, rfl, ?_⟩; have HO490 := aM (Kd.R_lower ho0 (below_size bQ)); replace HB := aM (below_step bQ hb); (try clear hb); (try clear ho0)))
  go_ret2
  exact ⟨_, rfl, HO490.out, HB.out⟩
 ·replace c3 := Bool.eq_false_iff.mpr c3
  subst c3
  replace H := jF H
  simp only [Option.some.injEq, Prod.mk.injEq] at H
  obtain ⟨rfl, rfl⟩ := H
  go_enter Tryd.func24, Tryd.ntmps24
  go_wp2_with (first | ((with_reducible refine gC 48 rfl ?_); refine gL (some 5) Tryd.func48 #[.string a0] ?_; (with_reducible refine (spec_twGood.calls k a0 false _ A2.out).mono ?_); rintro e w' ⟨rfl, ⟨nd, rfl⟩⟩; refine ⟨_, rfl, ?_⟩))
  go_ret2
  exact ⟨_, rfl, by first | exact Kd.R_nil _ _ _ _ _ | exact Kd.N_nil _ _ _ _ _ | exact Kd.V_nil _ _ _ _ _ | exact Kd.Q_nil _ _ _ _ _ | exact Kd.S_nil _ _ _ _ _, bQ⟩

/-! ### spec_DrawMakePairMove: function 25 (told by hand) -/
def spec_DrawMakePairMove.g (k : Nat) (s0_0 : List Int) (s0_1 : Int) (s0_2 : Int) : Option (ByteArray × Int × Int × Int) := (spec_l1Cur_pair.f k s0_0 s0_1 s0_2).bind fun bt513 => ((spec_l1Cur_among.f s0_0 bt513.2.2.1 bt513.2.2.2 (([(-1), 0, 1, 2, 3, (-2), 12] : List Int))).bind fun bt520 => (some (bt513.1, bt520.1, bt520.2.1, bt520.2.2)))
def spec_DrawMakePairMove.f (k : Nat) (l0 : List Int) : Option (ByteArray × Int) := (spec_DrawMakePairMove.g k l0 0 0).bind fun b_ => some (b_.1, b_.2.1)
theorem spec_DrawMakePairMove.mono_g : ∀ a0 a1 a2 k, LeO (spec_DrawMakePairMove.g k a0 a1 a2) (spec_DrawMakePairMove.g (k + 1) a0 a1 a2) := by
 intro a0 a1 a2 k
 unfold spec_DrawMakePairMove.g
 with_reducible repeat' first | exact spec_l1Cur_pair.mono _ _ _ _ | exact LeO.refl _ | exact LeO.none _ | refine LeO.ite ?_ ?_ | refine LeO.bind ?_ (fun _ => ?_)
theorem spec_DrawMakePairMove.mono : ∀ a0 k, LeO (spec_DrawMakePairMove.f k a0) (spec_DrawMakePairMove.f (k + 1) a0) := fun a0 k => LeO.bind (spec_DrawMakePairMove.mono_g a0 0 0 k) (fun _ => LeO.refl _)
set_option maxHeartbeats 8000000 in
set_option maxRecDepth 100000 in
theorem spec_DrawMakePairMove.calls (k : Nat) (A0 : Option Addr) (c0 : Nat) (l0 : List Int) (r1 : ByteArray) (r2 : Int) (w : World) (hr0 : Kd.C (Kd.int .u8) w A0 l0.length l0) (hc0 : l0.length ≤ c0) (h : spec_DrawMakePairMove.f k l0 = some (r1, r2)) :
  Calls Tryd.prog 25 #[.slice A0 l0.length c0] w fun e w' => e = .returned (.tuple #[.string r1, .int .i64 r2]) ∧ Below w.heap.size w w' := by
 replace h := Option.bind_eq_some_iff.mp h
 obtain ⟨⟨q1_, q2_, q3_, q4_⟩, h, hr_⟩ := h
 simp only [Option.some.injEq, Prod.mk.injEq] at hr_
 obtain ⟨rfl, rfl⟩ := hr_
 have hI : IsS60 w (w.alloc (.cells #[.slice A0 l0.length c0, .int .i64 0, .int .u64 0] 60)) w.heap.size l0 0 0 := IsS60.new w w A0 c0 l0 0 0 (Below.refl _ _) hr0
 have hB : Below w.heap.size w (w.alloc (.cells #[.slice A0 l0.length c0, .int .i64 0, .int .u64 0] 60)) := by (apply below_alloc; exact Below.refl _ _)
 have HI0 := aM hI
 have HK := aM (KeepBut.refl (w.alloc (.cells #[.slice A0 l0.length c0, .int .i64 0, .int .u64 0] 60)) w.heap.size none)
 have HL := aM hB.size
 clear hI
 have HW0 := aM hB.size
 have HB := aM hB
 clear hB
 have H : ((spec_l1Cur_pair.f k l0 0 0).bind fun bt513 => ((spec_l1Cur_among.f l0 bt513.2.2.1 bt513.2.2.2 (([(-1), 0, 1, 2, 3, (-2), 12] : List Int))).bind fun bt520 => (some (bt513.1, bt520.1, bt520.2.1, bt520.2.2)))) = some (q1_, q2_, q3_, q4_) := h
 clear h
 replace H := Option.bind_eq_some_iff.mp H
 obtain ⟨⟨t513, t514, t515, t516⟩, A20, H⟩ := H
 replace H : ((spec_l1Cur_among.f l0 t515 t516 (([(-1), 0, 1, 2, 3, (-2), 12] : List Int))).bind fun bt520 => (some (t513, bt520.1, bt520.2.1, bt520.2.2))) = some (q1_, q2_, q3_, q4_) := H
 have A2 := aM A20
 clear A20
 obtain ⟨y517, hy517⟩ : ∃ y_ : List Int, y_ = (([(-1), 0, 1, 2, 3, (-2), 12] : List Int)) := ⟨_, rfl⟩
 replace H : ((spec_l1Cur_among.f l0 t515 t516 y517).bind fun bt520 => (some (t513, bt520.1, bt520.2.1, bt520.2.2))) = some (q1_, q2_, q3_, q4_) := by first | (rw [hy517]; with_reducible exact H) | (have H2_ := (Option.bind_some _ _).symm.trans H; rw [hy517]; with_reducible exact H2_) | (have H2_ := (Option.bind_some _ _).symm.trans H; with_reducible exact H2_) | with_reducible exact H | (rw [hy517]; exact H) | exact H
 have Ny517 := aM hy517
 clear hy517
 replace H := Option.bind_eq_some_iff.mp H
 obtain ⟨⟨t520, t521, t522⟩, A30, H⟩ := H
 replace H : (some (t513, t520, t521, t522)) = some (q1_, q2_, q3_, q4_) := H
 have A3 := aM A30
 clear A30
 simp only [Option.some.injEq, Prod.mk.injEq] at H
 obtain ⟨rfl, rfl, rfl, rfl⟩ := H
 go_enter Tryd.func25, Tryd.ntmps25
 go_wp2_with (first | ((with_reducible refine gC 45 rfl ?_); refine gL (some 12) Tryd.func45 #[.pointer (some ⟨w.heap.size, 0, none⟩)] ?_; (with_reducible refine (spec_l1Cur_pair.calls k w.heap.size l0 0 0 t513 t514 t515 t516 w _ ?side1 ?side2 A2.out).mono ?_); (case side1 => repeat (first | (with_reducible first | exact HI0.out | apply IsS60.alloc | apply IsS60.drewN | apply IsS60.drew | apply IsS60.set_1 | apply IsS60.set_2) | exact HI0.out)); (case side2 => repeat (first | (with_reducible first | exact HB.out | apply bA | apply bN | apply bD | refine bS ?_ (IsS60.ge HI0.out)) | exact HB.out)); rintro e w4 ⟨rfl, hi, hb, hk⟩; refine ⟨_, rfl, ?_⟩; replace HK := aM (KeepBut.trans HK.out hk (.inl rfl)); replace HB := aM (hb); replace HI0 := aM (hi); (try clear hb)) | ((with_reducible refine gate_dst (N := 17) rfl ?_); refine Kd.R_lit (Kd.int .i64) _ 3 ?hg (N := 17) ?hd (xs := ([(-1), 0, 1, 2, 3, (-2), 12] : List Int)) (inner := [.int .i64 (-1), .int .i64 0, .int .i64 1, .int .i64 2, .int .i64 3, .int .i64 (-2), .int .i64 12]) (ok := fun _ => True) (okp := fun _ => True) ?hr ?hp (fun _ hk => hk) trivial (Below.refl _ _) (Nat.le_refl _) (by simp) ?_; (case hd => rfl); (case hg => rfl); (case hr => go_simp); (case hp => exact (Reps.one (show Kd.M (Kd.int .i64) _ _ _ (-1) [.int .i64 (-1)] from rfl) (Reps.one (show Kd.M (Kd.int .i64) _ _ _ 0 [.int .i64 0] from rfl) (Reps.one (show Kd.M (Kd.int .i64) _ _ _ 1 [.int .i64 1] from rfl) (Reps.one (show Kd.M (Kd.int .i64) _ _ _ 2 [.int .i64 2] from rfl) (Reps.one (show Kd.M (Kd.int .i64) _ _ _ 3 [.int .i64 3] from rfl) (Reps.one (show Kd.M (Kd.int .i64) _ _ _ (-2) [.int .i64 (-2)] from rfl) (Reps.one (show Kd.M (Kd.int .i64) _ _ _ 12 [.int .i64 12] from rfl) (Reps.none _ _))))))))); intro v518 w5 ho6 hb hg_ hnew_; clear hg_ hnew_; rw [← Ny517.out] at ho6; have HO519 := aM (Kd.R_lower ho6 (keep_size (w := (w.alloc (.cells #[.slice A0 l0.length c0, .int .i64 0, .int .u64 0] 60))) (g := w.heap.size) (row := none) HK.out)); replace HK := aM (KeepBut.trans HK.out (KeepBut.of_below hb w.heap.size none) (.inl rfl)); replace HB := aM (below_step (by repeat (first | (with_reducible first | exact HB.out | apply bA | apply bN | apply bD | refine bS ?_ (IsS60.ge HI0.out)) | exact HB.out)) hb); replace HI0 := aM (IsS60.below (by repeat (first | (with_reducible first | exact HI0.out | apply IsS60.alloc | apply IsS60.drewN | apply IsS60.drew | apply IsS60.set_1 | apply IsS60.set_2) | exact HI0.out)) hb); clear hb ho6; obtain ⟨Ao7, co7, eo7⟩ := Kd.R_slice HO519.out; subst eo7) | ((with_reducible refine gC 52 rfl ?_); refine gL (some 18) Tryd.func52 #[.pointer (some ⟨w.heap.size, 0, none⟩), .slice Ao7 y517.length co7] ?_; (with_reducible refine (spec_l1Cur_among.calls w.heap.size l0 t515 t516 _ _ y517 t520 t521 t522 w _ ?side1 ?side2 ?side3 ?side4 ?side5 A3.out).mono ?_); (case side1 => repeat (first | (with_reducible first | exact HI0.out | apply IsS60.alloc | apply IsS60.drewN | apply IsS60.drew | apply IsS60.set_1 | apply IsS60.set_2) | exact HI0.out)); (case side2 => repeat (first | (with_reducible first | exact HB.out | apply bA | apply bN | apply bD | refine bS ?_ (IsS60.ge HI0.out)) | exact HB.out)); (case side3 => repeat (first | exact (Kd.R_reads' HO519.out).2.2 | (with_reducible refine cA ?_ _) | (with_reducible refine cN ?_ _) | (with_reducible refine cD ?_))); (case side4 => exact (Kd.R_reads' HO519.out).2.1); (case side5 => exact far_slice (IsS60.own_ne HI0.out HO519.out (by decide))); rintro e w8 ⟨rfl, hi, hb, hk⟩; refine ⟨_, rfl, ?_⟩; replace HO519 := aM (Kd.R_mono (Kd.R_keep (IsS60.apart (show IsS60 w _ w.heap.size l0 t515 t516 from by repeat (first | (with_reducible first | exact HI0.out | apply IsS60.alloc | apply IsS60.drewN | apply IsS60.drew | apply IsS60.set_1 | apply IsS60.set_2) | exact HI0.out)) HO519.out (by decide)) hk (fun _ h => h.2)) (fun _ h => h.1)); replace HK := aM (KeepBut.trans HK.out hk (.inl rfl)); replace HB := aM (hb); replace HI0 := aM (hi); (try clear hb)))
 go_ret2
 exact ⟨rfl, by repeat (first | (with_reducible first | exact HB.out | apply bA | apply bN | apply bD | refine bS ?_ (IsS60.ge HI0.out)) | exact HB.out)⟩

/-! ### spec_MakePairMove: function 26 -/
def spec_MakePairMove.f (k : Nat) (a0 : ByteArray) (a1 : Int) : Option (ByteArray × Bool) := (spec_twGood.f k a0).bind fun t491 => (if t491 = true then ((spec_twMoves.f k a0).bind fun t492 => ((spec_l1Has.f k t492 a1).bind fun t495 => (if t495 = true then ((spec_twMake.f a0 a1).bind fun t496 => (some (t496, true))) else (some ((⟨#[]⟩ : ByteArray), false))))) else (some ((⟨#[]⟩ : ByteArray), false)))
theorem spec_MakePairMove.mono : ∀ a0 a1 k, LeO (spec_MakePairMove.f k a0 a1) (spec_MakePairMove.f (k + 1) a0 a1) := by
 intro a0 a1 k
 unfold spec_MakePairMove.f
 with_reducible repeat' first | exact spec_l1Has.mono _ _ _ | exact spec_twGood.mono _ _ | exact spec_twMoves.mono _ _ | exact LeO.refl _ | exact LeO.none _ | refine LeO.ite ?_ ?_ | refine LeO.bind ?_ (fun _ => ?_)
set_option maxHeartbeats 8000000 in
set_option maxRecDepth 100000 in
theorem spec_MakePairMove.calls (k : Nat) (a0 : ByteArray) (a1 : Int) (r1 : ByteArray) (r2 : Bool) (w : World) (h : spec_MakePairMove.f k a0 a1 = some (r1, r2)) :
  Calls Tryd.prog 26 #[.string a0, .int .i64 a1] w fun e w' => e = .returned (.tuple #[.string r1, .bool r2]) ∧ Below w.heap.size w w' := by
 have HB := aM (Below.refl w.heap.size w)
 have H := h; clear h; unfold spec_MakePairMove.f at H
 replace H := jS H; obtain ⟨t491, A3, H⟩ := H
 by_cases c4 : t491 = true
 ·subst c4
  replace H := jT H
  replace H := jS H; obtain ⟨t492, A5, H⟩ := H
  replace H := jS H; obtain ⟨t495, A6, H⟩ := H
  by_cases c7 : t495 = true
  ·subst c7
   replace H := jT H
   replace H := jS H; obtain ⟨t496, A8, H⟩ := H
   simp only [Option.some.injEq, Prod.mk.injEq] at H
   obtain ⟨rfl, rfl⟩ := H
   go_enter Tryd.func26, Tryd.ntmps26
   go_wp2_with (first | ((with_reducible refine gC 48 rfl ?_); refine gL (some 7) Tryd.func48 #[.string a0] ?_; (with_reducible refine (spec_twGood.calls k a0 true _ A3.out).mono ?_); rintro e w' ⟨rfl, ⟨nd, rfl⟩⟩; refine ⟨_, rfl, ?_⟩) | (go_at_call 50; (with_reducible refine (spec_twMoves.calls k a0 t492 _ A5.out).mono ?_); rintro e w9 ⟨v493, rfl, ho0, hb⟩; have HO494 := aM (Kd.R_lower ho0 (below_size bQ)); replace HB := aM (below_step bQ hb); (try clear hb); (try clear ho0); obtain ⟨Ao10, co10, eo10⟩ := Kd.R_slice HO494.out; subst eo10) | (go_at_call 49; (with_reducible refine (spec_l1Has.calls k _ _ t492 a1 true _ ?side1 ?side2 A6.out).mono ?_); (case side1 => repeat (first | exact (Kd.R_reads' HO494.out).2.2 | (with_reducible refine cA ?_ _) | (with_reducible refine cN ?_ _) | (with_reducible refine cD ?_))); (case side2 => exact (Kd.R_reads' HO494.out).2.1); rintro e w' ⟨rfl, ⟨nd, rfl⟩⟩) | ((with_reducible refine gC 51 rfl ?_); refine gL (some 18) Tryd.func51 #[.string a0, .int .i64 a1] ?_; (with_reducible refine (spec_twMake.calls a0 a1 t496 _ A8.out).mono ?_); rintro e w' ⟨rfl, ⟨nd, rfl⟩⟩; refine ⟨_, rfl, ?_⟩))
   go_ret2
   exact ⟨rfl, bQ⟩
  ·replace c7 := Bool.eq_false_iff.mpr c7
   subst c7
   replace H := jF H
   simp only [Option.some.injEq, Prod.mk.injEq] at H
   obtain ⟨rfl, rfl⟩ := H
   go_enter Tryd.func26, Tryd.ntmps26
   go_wp2_with (first | ((with_reducible refine gC 48 rfl ?_); refine gL (some 7) Tryd.func48 #[.string a0] ?_; (with_reducible refine (spec_twGood.calls k a0 true _ A3.out).mono ?_); rintro e w' ⟨rfl, ⟨nd, rfl⟩⟩; refine ⟨_, rfl, ?_⟩) | (go_at_call 50; (with_reducible refine (spec_twMoves.calls k a0 t492 _ A5.out).mono ?_); rintro e w11 ⟨v493, rfl, ho0, hb⟩; have HO494 := aM (Kd.R_lower ho0 (below_size bQ)); replace HB := aM (below_step bQ hb); (try clear hb); (try clear ho0); obtain ⟨Ao12, co12, eo12⟩ := Kd.R_slice HO494.out; subst eo12) | (go_at_call 49; (with_reducible refine (spec_l1Has.calls k _ _ t492 a1 false _ ?side1 ?side2 A6.out).mono ?_); (case side1 => repeat (first | exact (Kd.R_reads' HO494.out).2.2 | (with_reducible refine cA ?_ _) | (with_reducible refine cN ?_ _) | (with_reducible refine cD ?_))); (case side2 => exact (Kd.R_reads' HO494.out).2.1); rintro e w' ⟨rfl, ⟨nd, rfl⟩⟩))
   go_ret2
   exact ⟨rfl, bQ⟩
 ·replace c4 := Bool.eq_false_iff.mpr c4
  subst c4
  replace H := jF H
  simp only [Option.some.injEq, Prod.mk.injEq] at H
  obtain ⟨rfl, rfl⟩ := H
  go_enter Tryd.func26, Tryd.ntmps26
  go_wp2_with (first | ((with_reducible refine gC 48 rfl ?_); refine gL (some 7) Tryd.func48 #[.string a0] ?_; (with_reducible refine (spec_twGood.calls k a0 false _ A3.out).mono ?_); rintro e w' ⟨rfl, ⟨nd, rfl⟩⟩; refine ⟨_, rfl, ?_⟩))
  go_ret2
  exact ⟨rfl, bQ⟩

/-! ### impl_MovesOf: function 27 -/
def impl_MovesOf.f (k : Nat) (a0 : ByteArray) : Option (List Int × Bool) := (impl_IsState.f a0).bind fun t497 => (if t497 = true then ((impl_movesOf.f k a0).bind fun t498 => (some (t498, true))) else (some (([] : List Int), false)))
theorem impl_MovesOf.mono : ∀ a0 k, LeO (impl_MovesOf.f k a0) (impl_MovesOf.f (k + 1) a0) := by
 intro a0 k
 unfold impl_MovesOf.f
 with_reducible repeat' first | exact impl_movesOf.mono _ _ | exact LeO.refl _ | exact LeO.none _ | refine LeO.ite ?_ ?_ | refine LeO.bind ?_ (fun _ => ?_)
set_option maxHeartbeats 8000000 in
set_option maxRecDepth 100000 in
theorem impl_MovesOf.calls (k : Nat) (a0 : ByteArray) (r1 : List Int) (r2 : Bool) (w : World) (h : impl_MovesOf.f k a0 = some (r1, r2)) :
  Calls Tryd.prog 27 #[.string a0] w fun e w' => ∃ v0_ : Value, e = .returned (.tuple #[v0_, .bool r2]) ∧ Kd.R (Kd.int .i64) 3 w' w.heap.size (fun _ => True) v0_ r1 ∧ Below w.heap.size w w' := by
 have HB := aM (Below.refl w.heap.size w)
 have H := h; clear h; unfold impl_MovesOf.f at H
 replace H := jS H; obtain ⟨t497, A2, H⟩ := H
 by_cases c3 : t497 = true
 ·subst c3
  replace H := jT H
  replace H := jS H; obtain ⟨t498, A4, H⟩ := H
  simp only [Option.some.injEq, Prod.mk.injEq] at H
  obtain ⟨rfl, rfl⟩ := H
  go_enter Tryd.func27, Tryd.ntmps27
  go_wp2_with (first | ((with_reducible refine gC 53 rfl ?_); refine gL (some 5) Tryd.func53 #[.string a0] ?_; (with_reducible refine (impl_IsState.calls a0 true _ A2.out).mono ?_); rintro e w5 ⟨rfl, hb⟩; refine ⟨_, rfl, ?_⟩; replace HB := aM (below_step HB.out hb); (try clear hb)) | ((with_reducible refine gC 54 rfl ?_); refine gL (some 8) Tryd.func54 #[.string a0] ?_; (with_reducible refine (impl_movesOf.calls k a0 t498 _ A4.out).mono ?_); rintro e w6 ⟨v499, rfl, ho0, hb⟩; refine ⟨_, rfl, ?_⟩; have HO500 := aM (Kd.R_lower ho0 (below_size HB.out)); replace HB := aM (below_step HB.out hb); (try clear hb); (try clear ho0)))
  go_ret2
  exact ⟨_, rfl, HO500.out, HB.out⟩
 ·replace c3 := Bool.eq_false_iff.mpr c3
  subst c3
  replace H := jF H
  simp only [Option.some.injEq, Prod.mk.injEq] at H
  obtain ⟨rfl, rfl⟩ := H
  go_enter Tryd.func27, Tryd.ntmps27
  go_wp2_with (first | ((with_reducible refine gC 53 rfl ?_); refine gL (some 5) Tryd.func53 #[.string a0] ?_; (with_reducible refine (impl_IsState.calls a0 false _ A2.out).mono ?_); rintro e w7 ⟨rfl, hb⟩; refine ⟨_, rfl, ?_⟩; replace HB := aM (below_step HB.out hb); (try clear hb)))
  go_ret2
  exact ⟨_, rfl, by first | exact Kd.R_nil _ _ _ _ _ | exact Kd.N_nil _ _ _ _ _ | exact Kd.V_nil _ _ _ _ _ | exact Kd.Q_nil _ _ _ _ _ | exact Kd.S_nil _ _ _ _ _, HB.out⟩

/-! ### laws_yHas: function 28 -/
def laws_yHas.l0 : Nat → Int → List Int → Int → Int → Option (Bool)
 | 0, _, _, _, _ => none
 | k + 1, x1, x7, x8, x9 => if x9 < x8 then (if 0 ≤ x9 then (if x9 < (x7.length : Int) then (if (rd x7 x9) = x1 then (some true) else (laws_yHas.l0 k x1 x7 x8 (wrap64 (x9 + 1)))) else (none)) else (none)) else (some false)
def laws_yHas.f (k : Nat) (l0 : List Int) (a1 : Int) : Option (Bool) := laws_yHas.l0 k a1 l0 (l0.length : Int) 0
theorem laws_yHas.mono_l : ∀ k, (∀ y0 y1 y2 y3, LeO (laws_yHas.l0 k y0 y1 y2 y3) (laws_yHas.l0 (k + 1) y0 y1 y2 y3))
 | 0 => fun _ _ _ _ r h => by simp [laws_yHas.l0] at h
 | k + 1 => by
  have ih0 := laws_yHas.mono_l k
  ·intro y0 y1 y2 y3
   unfold laws_yHas.l0
   with_reducible repeat' first | exact ih0 _ _ _ _ | exact LeO.refl _ | exact LeO.none _ | refine LeO.ite ?_ ?_ | refine LeO.bind ?_ (fun _ => ?_)
theorem laws_yHas.mono : ∀ a0 a1 k, LeO (laws_yHas.f k a0 a1) (laws_yHas.f (k + 1) a0 a1) := by
 intro a0 a1 k
 have ih0 := laws_yHas.mono_l k
 unfold laws_yHas.f
 with_reducible repeat' first | exact ih0 _ _ _ _ | exact LeO.refl _ | exact LeO.none _ | refine LeO.ite ?_ ?_ | refine LeO.bind ?_ (fun _ => ?_)
set_option maxHeartbeats 8000000 in
set_option maxRecDepth 100000 in
theorem laws_yHas.calls (k : Nat) (A0 : Option Addr) (c0 : Nat) (l0 : List Int) (a1 : Int) (r : Bool) (w : World) (hr0 : Kd.C (Kd.int .i64) w A0 l0.length l0) (hc0 : l0.length ≤ c0) (h : laws_yHas.f k l0 a1 = some r) :
  Calls Tryd.prog 28 #[.slice A0 l0.length c0, .int .i64 a1] w fun e w' => e = .returned (.bool r) ∧ Drawn0 w w' := by
 have HR0 := aM hr0
 have HC0 := aM hc0
 clear hr0 hc0
 have H := h; clear h; unfold laws_yHas.f at H
 have H' := aM H
 clear H
 go_enter Tryd.func28, Tryd.ntmps28
 go_wp2
 go_loopg [9] k (fun kq v9 w' => ∃ (x9_1 : Int), v9 = .int .i64 x9_1 ∧ Aside0 (laws_yHas.l0 kq a1 l0 (l0.length : Int) x9_1 = some r) ∧ Aside0 (kq ≤ k) ∧ Drawn0 w w')
 case atStart => exact ⟨(0), rfl, H', ⟨Nat.le_refl _⟩, by repeat (first | exact Drawn0.refl _ | apply Drawn0.step)⟩
 case round =>
  clear H'
  obtain ⟨x9_1, rfl, HA, HK1, ⟨m1, rfl⟩⟩ := hrel
  cases gk with
  | zero => exact absurd HA.out (by simp [laws_yHas.l0])
  | succ k1 =>
   have H := HA.out
   clear HA
   simp only [laws_yHas.l0] at H
   replace H := iO H; obtain ⟨c3, H⟩ | ⟨c3, H⟩ := H
   ·have c3b0 := decide_eq_true c3
    clear c3
    replace H := iC H; obtain ⟨c4, H⟩ := H
    have c4b0 := decide_eq_true c4
    clear c4
    replace H := iC H; obtain ⟨c5, H⟩ := H
    have c5b0 := decide_eq_true c5
    clear c5
    replace H := iO H; obtain ⟨c6, H⟩ | ⟨c6, H⟩ := H
    ·have c6b0 : ((rd l0 x9_1) == a1) = true := beq_iff_eq.mpr c6
     have c6b1 : ((rd l0 x9_1) != a1) = false := bne_eq_false_iff_eq.mpr c6
     clear c6
     obtain rfl := Option.some.inj H
     obtain ⟨ad501, e501, hx501_0, p501, q501⟩ := aZ (Kd.at_int HR0.out x9_1); cases e501
     go_wp2
     go_ret
     exact ⟨rfl, by repeat (first | exact Drawn0.refl _ | apply Drawn0.step)⟩
    ·have c6b0 : ((rd l0 x9_1) == a1) = false := beq_eq_false_iff_ne.mpr c6
     have c6b1 : ((rd l0 x9_1) != a1) = true := bne_iff_ne.mpr c6
     have H' := aM H
     clear H; obtain ⟨ad501, e501, hx501_0, p501, q501⟩ := aZ (Kd.at_int HR0.out x9_1); cases e501
     go_wp2
     go_roundg k1
     case measure => have := HK1.out; omega
     case rel => exact ⟨(wrap64 (x9_1 + 1)), rfl, H', ⟨by have := HK1.out; omega⟩, by repeat (first | exact Drawn0.refl _ | apply Drawn0.step)⟩
   ·have c3b0 := decide_eq_false c3
    clear c3
    obtain rfl := Option.some.inj H
    go_wp2
    go_ret
    exact ⟨rfl, by repeat (first | exact Drawn0.refl _ | apply Drawn0.step)⟩

/-! ### laws_ySum: function 29 -/
def laws_ySum.l0 : Nat → Int → List Int → Int → Int → Option (Int)
 | 0, _, _, _, _ => none
 | k + 1, x3, x6, x7, x8 => if x8 < x7 then (if 0 ≤ x8 then (if x8 < (x6.length : Int) then (laws_ySum.l0 k (wrap64 (x3 + (rd x6 x8))) x6 x7 (wrap64 (x8 + 1))) else (none)) else (none)) else (some x3)
def laws_ySum.f (k : Nat) (l0 : List Int) : Option (Int) := laws_ySum.l0 k 0 l0 (l0.length : Int) 0
theorem laws_ySum.mono_l : ∀ k, (∀ y0 y1 y2 y3, LeO (laws_ySum.l0 k y0 y1 y2 y3) (laws_ySum.l0 (k + 1) y0 y1 y2 y3))
 | 0 => fun _ _ _ _ r h => by simp [laws_ySum.l0] at h
 | k + 1 => by
  have ih0 := laws_ySum.mono_l k
  ·intro y0 y1 y2 y3
   unfold laws_ySum.l0
   with_reducible repeat' first | exact ih0 _ _ _ _ | exact LeO.refl _ | exact LeO.none _ | refine LeO.ite ?_ ?_ | refine LeO.bind ?_ (fun _ => ?_)
theorem laws_ySum.mono : ∀ a0 k, LeO (laws_ySum.f k a0) (laws_ySum.f (k + 1) a0) := by
 intro a0 k
 have ih0 := laws_ySum.mono_l k
 unfold laws_ySum.f
 with_reducible repeat' first | exact ih0 _ _ _ _ | exact LeO.refl _ | exact LeO.none _ | refine LeO.ite ?_ ?_ | refine LeO.bind ?_ (fun _ => ?_)
set_option maxHeartbeats 8000000 in
set_option maxRecDepth 100000 in
theorem laws_ySum.calls (k : Nat) (A0 : Option Addr) (c0 : Nat) (l0 : List Int) (r : Int) (w : World) (hr0 : Kd.C (Kd.int .i64) w A0 l0.length l0) (hc0 : l0.length ≤ c0) (h : laws_ySum.f k l0 = some r) :
  Calls Tryd.prog 29 #[.slice A0 l0.length c0] w fun e w' => e = .returned (.int .i64 r) ∧ Drawn0 w w' := by
 have HR0 := aM hr0
 have HC0 := aM hc0
 clear hr0 hc0
 have H := h; clear h; unfold laws_ySum.f at H
 have H' := aM H
 clear H
 go_enter Tryd.func29, Tryd.ntmps29
 go_wp2
 go_loopg [3, 8] k (fun kq v3 v8 w' => ∃ (x3_1 : Int) (x8_1 : Int), v3 = .int .i64 x3_1 ∧ v8 = .int .i64 x8_1 ∧ Aside0 (laws_ySum.l0 kq x3_1 l0 (l0.length : Int) x8_1 = some r) ∧ Aside0 (kq ≤ k) ∧ Drawn0 w w')
 case atStart => exact ⟨(0), (0), rfl, rfl, H', ⟨Nat.le_refl _⟩, by repeat (first | exact Drawn0.refl _ | apply Drawn0.step)⟩
 case round =>
  clear H'
  obtain ⟨x3_1, x8_1, rfl, rfl, HA, HK1, ⟨m1, rfl⟩⟩ := hrel
  cases gk with
  | zero => exact absurd HA.out (by simp [laws_ySum.l0])
  | succ k1 =>
   have H := HA.out
   clear HA
   simp only [laws_ySum.l0] at H
   replace H := iO H; obtain ⟨c2, H⟩ | ⟨c2, H⟩ := H
   ·have c2b0 := decide_eq_true c2
    clear c2
    replace H := iC H; obtain ⟨c3, H⟩ := H
    have c3b0 := decide_eq_true c3
    clear c3
    replace H := iN H; obtain ⟨c4b0, H⟩ := H
    have H' := aM H
    clear H; obtain ⟨ad502, e502, hx502_0, p502, q502⟩ := aZ (Kd.at_int HR0.out x8_1); cases e502
    go_wp2
    go_roundg k1
    case measure => have := HK1.out; omega
    case rel => exact ⟨(wrap64 (x3_1 + (rd l0 x8_1))), (wrap64 (x8_1 + 1)), rfl, rfl, H', ⟨by have := HK1.out; omega⟩, by repeat (first | exact Drawn0.refl _ | apply Drawn0.step)⟩
   ·have c2b0 := decide_eq_false c2
    clear c2
    obtain rfl := Option.some.inj H
    go_wp2
    go_ret
    exact ⟨rfl, by repeat (first | exact Drawn0.refl _ | apply Drawn0.step)⟩

end Go.Proofs.YtppbohghongfmaaDoor.PN
