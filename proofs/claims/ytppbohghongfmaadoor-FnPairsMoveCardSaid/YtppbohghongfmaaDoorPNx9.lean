-- written by a program of this session's (wip/tools), over the kit's print
import Derived.Test.YtppbohghongfmaaDoorPNx0
import Derived.Test.YtppbohghongfmaaDoorPNx1
import Derived.Test.YtppbohghongfmaaDoorPNx2
import Derived.Test.YtppbohghongfmaaDoorPNx4
import Derived.Test.YtppbohghongfmaaDoorPNx5
import Derived.Test.YtppbohghongfmaaDoorPNx7
-- squeezed
-- squeezed twice
namespace Go.Proofs.YtppbohghongfmaaDoor.PN
open Go.RowKit Go.Proofs.YtppbohghongfmaaDoorW.PrintWords Go.Proofs.YtppbohghongfmaaDoorW.PrintLast Go.Proofs.YtppbohghongfmaaDoorW.PrintMore
attribute [local go_sem] max2_int min2_int max_two min_two max_three min_three max_four min_four   -- for this text's walks alone
set_option linter.unusedVariables false
set_option linter.unusedSimpArgs false

/-! ### impl_MakePairMove: function 20 -/
def impl_MakePairMove.f (a0 : ByteArray) (a1 : Int) : Option (ByteArray × Bool) := (impl_isPaired.f a0).bind fun t445 => (if t445 = true then ((impl_canPair.f a0 a1).bind fun t446 => (if t446 = true then ((impl_paired.f a0 a1).bind fun t447 => (some (t447, true))) else (some ((⟨#[]⟩ : ByteArray), false)))) else (some ((⟨#[]⟩ : ByteArray), false)))
set_option maxHeartbeats 8000000 in
set_option maxRecDepth 100000 in
theorem impl_MakePairMove.calls (a0 : ByteArray) (a1 : Int) (r1 : ByteArray) (r2 : Bool) (w : World) (h : impl_MakePairMove.f a0 a1 = some (r1, r2)) :
  Calls Tryd.prog 20 #[.string a0, .int .i64 a1] w fun e w' => e = .returned (.tuple #[.string r1, .bool r2]) ∧ Below w.heap.size w w' := by
 have HB := aM (Below.refl w.heap.size w)
 have H := h; clear h; unfold impl_MakePairMove.f at H
 replace H := jS H; obtain ⟨t445, A3, H⟩ := H
 by_cases c4 : t445 = true
 ·subst c4
  replace H := jT H
  replace H := jS H; obtain ⟨t446, A5, H⟩ := H
  by_cases c6 : t446 = true
  ·subst c6
   replace H := jT H
   replace H := jS H; obtain ⟨t447, A7, H⟩ := H
   simp only [Option.some.injEq, Prod.mk.injEq] at H
   obtain ⟨rfl, rfl⟩ := H
   go_enter Tryd.func20, Tryd.ntmps20
   go_wp2_with (first | ((with_reducible refine gC 42 rfl ?_); refine gL (some 7) Tryd.func42 #[.string a0] ?_; (with_reducible refine (impl_isPaired.calls a0 true _ A3.out).mono ?_); rintro e w8 ⟨rfl, hb⟩; refine ⟨_, rfl, ?_⟩; replace HB := aM (below_step HB.out hb); (try clear hb)) | (go_at_call 43; (with_reducible refine (impl_canPair.calls a0 a1 true _ A5.out).mono ?_); rintro e w9 ⟨rfl, hb⟩; replace HB := aM (below_step HB.out hb); (try clear hb)) | ((with_reducible refine gC 35 rfl ?_); refine gL (some 17) Tryd.func35 #[.string a0, .int .i64 a1] ?_; (with_reducible refine (impl_paired.calls a0 a1 t447 _ A7.out).mono ?_); rintro e w10 ⟨rfl, hb⟩; refine ⟨_, rfl, ?_⟩; replace HB := aM (below_step HB.out hb); (try clear hb)))
   go_ret2
   exact ⟨rfl, HB.out⟩
  ·replace c6 := Bool.eq_false_iff.mpr c6
   subst c6
   replace H := jF H
   simp only [Option.some.injEq, Prod.mk.injEq] at H
   obtain ⟨rfl, rfl⟩ := H
   go_enter Tryd.func20, Tryd.ntmps20
   go_wp2_with (first | ((with_reducible refine gC 42 rfl ?_); refine gL (some 7) Tryd.func42 #[.string a0] ?_; (with_reducible refine (impl_isPaired.calls a0 true _ A3.out).mono ?_); rintro e w11 ⟨rfl, hb⟩; refine ⟨_, rfl, ?_⟩; replace HB := aM (below_step HB.out hb); (try clear hb)) | (go_at_call 43; (with_reducible refine (impl_canPair.calls a0 a1 false _ A5.out).mono ?_); rintro e w12 ⟨rfl, hb⟩; replace HB := aM (below_step HB.out hb); (try clear hb)))
   go_ret2
   exact ⟨rfl, HB.out⟩
 ·replace c4 := Bool.eq_false_iff.mpr c4
  subst c4
  replace H := jF H
  simp only [Option.some.injEq, Prod.mk.injEq] at H
  obtain ⟨rfl, rfl⟩ := H
  go_enter Tryd.func20, Tryd.ntmps20
  go_wp2_with (first | ((with_reducible refine gC 42 rfl ?_); refine gL (some 7) Tryd.func42 #[.string a0] ?_; (with_reducible refine (impl_isPaired.calls a0 false _ A3.out).mono ?_); rintro e w13 ⟨rfl, hb⟩; refine ⟨_, rfl, ?_⟩; replace HB := aM (below_step HB.out hb); (try clear hb)))
  go_ret2
  exact ⟨rfl, HB.out⟩

/-! ### spec_l1Cur_among: function 52 -/
def spec_l1Cur_among.f (s0_0 : List Int) (s0_1 : Int) (s0_2 : Int) (l1 : List Int) : Option (Int × Int × Int) := (spec_l1Cur_pick.f s0_0 s0_1 s0_2 (l1.length : Int)).bind fun bt448 => (if 0 ≤ bt448.1 then (if bt448.1 < (l1.length : Int) then (some (rd l1 bt448.1, bt448.2.1, bt448.2.2)) else (none)) else (none))
set_option maxHeartbeats 8000000 in
set_option maxRecDepth 100000 in
theorem spec_l1Cur_among.calls (g : Nat) (s0_0 : List Int) (s0_1 : Int) (s0_2 : Int) (A1 : Option Addr) (c1 : Nat) (l1 : List Int) (r1 : Int) (r2 : Int) (r3 : Int) (w0 w : World) (hI : IsS60 w0 w g s0_0 s0_1 s0_2) (hB : Below w0.heap.size w0 w) (hr1 : Kd.C (Kd.int .i64) w A1 l1.length l1) (hc1 : l1.length ≤ c1) (hf1 : ∀ ad, A1 = some ad → 0 < l1.length → ad.block ≠ g) (h : spec_l1Cur_among.f s0_0 s0_1 s0_2 l1 = some (r1, r2, r3)) :
  Calls Tryd.prog 52 #[.pointer (some ⟨g, 0, none⟩), .slice A1 l1.length c1] w fun e w' => e = .returned (.int .i64 r1) ∧ IsS60 w0 w' g s0_0 r2 r3 ∧ Below w0.heap.size w0 w' ∧ KeepBut w w' g none := by
 have HR1 := aM hr1
 have HC1 := aM hc1
 clear hr1 hc1
 have HI0 := aM hI
 have HK := aM (KeepBut.refl w g none)
 have HL := aM hB.size
 clear hI
 have HW0 := aM hB.size
 have HB := aM hB
 clear hB
 have H := h; clear h; unfold spec_l1Cur_among.f at H
 replace H := jS H; obtain ⟨⟨t448, t449, t450⟩, A3, H⟩ := H; dsimp only at H
 replace H := iC H; obtain ⟨c4, H⟩ := H
 have c4b0 := decide_eq_true c4
 clear c4
 replace H := iN H; obtain ⟨c5b0, H⟩ := H
 simp only [Option.some.injEq, Prod.mk.injEq] at H
 obtain ⟨rfl, rfl, rfl⟩ := H
 go_enter Tryd.func52, Tryd.ntmps52
 go_wp2_with (first | ((with_reducible refine gC 62 rfl ?_); refine gL (some 9) Tryd.func62 #[.pointer (some ⟨g, 0, none⟩), .int .i64 (l1.length : Int)] ?_; (with_reducible refine (spec_l1Cur_pick.calls g s0_0 s0_1 s0_2 (l1.length : Int) t448 t449 t450 w0 _ ?side1 ?side2 A3.out).mono ?_); (case side1 => repeat (first | (with_reducible first | exact HI0.out | apply IsS60.alloc | apply IsS60.drewN | apply IsS60.drew | apply IsS60.set_1 | apply IsS60.set_2) | exact HI0.out)); (case side2 => repeat (first | (with_reducible first | exact HB.out | apply bA | apply bN | apply bD | refine bS ?_ (IsS60.ge HI0.out)) | exact HB.out)); rintro e w6 ⟨rfl, hi, hb, hk⟩; refine ⟨_, rfl, ?_⟩; replace HK := aM (KeepBut.trans HK.out hk (.inl rfl)); replace HB := aM (hb); replace HI0 := aM (hi); (try clear hb); have p451 : 0 ≤ (t448 : Int) := oD; have q451 : t448 < (l1.length : Int) := oD; obtain ⟨ad451, e451, hx451_0⟩ := Kd.at_int HR1.out t448 p451 q451; cases e451; replace hx451_0 := keep_cell HK.out hx451_0 (by first | (rw [add_block]; exact hf1 _ rfl (by omega)) | exact hf1 _ rfl (by omega) | exact hf1 ad451 rfl (by omega)); replace p451 := eq_true p451; replace q451 := eq_true q451))
 go_ret
 exact ⟨rfl, by repeat (first | (with_reducible first | exact HI0.out | apply IsS60.alloc | apply IsS60.drewN | apply IsS60.drew | apply IsS60.set_1 | apply IsS60.set_2) | exact HI0.out), by repeat (first | (with_reducible first | exact HB.out | apply bA | apply bN | apply bD | refine bS ?_ (IsS60.ge HI0.out)) | exact HB.out), HK.out⟩
/-! ### spec_l1Cur_moves: function 47 -/
mutual
def spec_l1Cur_moves.j1 : Nat → List Int → List Int → Int → Int → Option (List Int × Int × Int)
 | 0, _, _, _, _ => none
 | k + 1, x5, x1000, x1001, x1002 => (spec_l1Cur_one.f x1000 x1001 x1002 4).bind fun bt467 => (if bt467.1 = true then ((spec_l1Cur_among.f x1000 bt467.2.1 bt467.2.2 (([0, 1, 2, 5, (-1), 20, 4611686018427387904] : List Int))).bind fun bt473 => (if x5.length < 17592186044416 then (some ((x5 ++ [bt473.1]), bt473.2.1, bt473.2.2)) else (none))) else (some (x5, bt467.2.1, bt467.2.2)))
def spec_l1Cur_moves.l0 : Nat → List Int → ByteArray → Int → List Int → Int → Int → Option (List Int × Int × Int)
 | 0, _, _, _, _, _, _ => none
 | k + 1, x5, x6, x7, x1000, x1001, x1002 => if x7 > 0 then ((spec_riGood.f k x6).bind fun t455 => (if t455 = true then ((spec_riMoves.f k x6).bind fun t456 => ((spec_l1Cur_pick.f x1000 x1001 x1002 (t456.length : Int)).bind fun bt459 => (if 0 ≤ bt459.1 then (if bt459.1 < (t456.length : Int) then (if x5.length < 17592186044416 then ((spec_riMove.f x6 (rd t456 bt459.1)).bind fun t466 => (spec_l1Cur_moves.l0 k (x5 ++ [rd t456 bt459.1]) t466 (wrap64 (x7 - 1)) x1000 bt459.2.1 bt459.2.2)) else (none)) else (none)) else (none)))) else (spec_l1Cur_moves.j1 k x5 x1000 x1001 x1002))) else (spec_l1Cur_moves.j1 k x5 x1000 x1001 x1002)
end
def spec_l1Cur_moves.f (k : Nat) (s0_0 : List Int) (s0_1 : Int) (s0_2 : Int) (a1 : ByteArray) : Option (List Int × Int × Int) := (spec_l1Cur_pick.f s0_0 s0_1 s0_2 12).bind fun bt452 => (spec_l1Cur_moves.l0 k ([] : List Int) a1 bt452.1 s0_0 bt452.2.1 bt452.2.2)
theorem spec_l1Cur_moves.mono_l : ∀ k, (∀ y0 y1 y2 y3, LeO (spec_l1Cur_moves.j1 k y0 y1 y2 y3) (spec_l1Cur_moves.j1 (k + 1) y0 y1 y2 y3)) ∧ (∀ y0 y1 y2 y3 y4 y5, LeO (spec_l1Cur_moves.l0 k y0 y1 y2 y3 y4 y5) (spec_l1Cur_moves.l0 (k + 1) y0 y1 y2 y3 y4 y5))
 | 0 => ⟨fun _ _ _ _ r h => by simp [spec_l1Cur_moves.j1] at h, fun _ _ _ _ _ _ r h => by simp [spec_l1Cur_moves.l0] at h⟩
 | k + 1 => by
  obtain ⟨ih0, ih1⟩ := spec_l1Cur_moves.mono_l k
  refine ⟨?_, ?_⟩
  ·intro y0 y1 y2 y3
   unfold spec_l1Cur_moves.j1
   with_reducible repeat' first | exact ih0 _ _ _ _ | exact ih1 _ _ _ _ _ _ | exact spec_riGood.mono _ _ | exact spec_riMoves.mono _ _ | exact LeO.refl _ | exact LeO.none _ | refine LeO.ite ?_ ?_ | refine LeO.bind ?_ (fun _ => ?_)
  ·intro y0 y1 y2 y3 y4 y5
   unfold spec_l1Cur_moves.l0
   with_reducible repeat' first | exact ih0 _ _ _ _ | exact ih1 _ _ _ _ _ _ | exact spec_riGood.mono _ _ | exact spec_riMoves.mono _ _ | exact LeO.refl _ | exact LeO.none _ | refine LeO.ite ?_ ?_ | refine LeO.bind ?_ (fun _ => ?_)
theorem spec_l1Cur_moves.mono : ∀ a0 a1 a2 a3 k, LeO (spec_l1Cur_moves.f k a0 a1 a2 a3) (spec_l1Cur_moves.f (k + 1) a0 a1 a2 a3) := by
 intro a0 a1 a2 a3 k
 obtain ⟨ih0, ih1⟩ := spec_l1Cur_moves.mono_l k
 unfold spec_l1Cur_moves.f
 with_reducible repeat' first | exact ih0 _ _ _ _ | exact ih1 _ _ _ _ _ _ | exact spec_riGood.mono _ _ | exact spec_riMoves.mono _ _ | exact LeO.refl _ | exact LeO.none _ | refine LeO.ite ?_ ?_ | refine LeO.bind ?_ (fun _ => ?_)
set_option maxHeartbeats 8000000 in
set_option maxRecDepth 100000 in
theorem spec_l1Cur_moves.calls (k : Nat) (g : Nat) (s0_0 : List Int) (s0_1 : Int) (s0_2 : Int) (a1 : ByteArray) (r1 : List Int) (r2 : Int) (r3 : Int) (w0 w : World) (hI : IsS60 w0 w g s0_0 s0_1 s0_2) (hB : Below w0.heap.size w0 w) (h : spec_l1Cur_moves.f k s0_0 s0_1 s0_2 a1 = some (r1, r2, r3)) :
  Calls Tryd.prog 47 #[.pointer (some ⟨g, 0, none⟩), .string a1] w fun e w' => ∃ v0_ : Value, e = .returned (v0_) ∧ Kd.R (Kd.int .i64) 3 w' w.heap.size (fun _ => True) v0_ r1 ∧ IsS60 w0 w' g s0_0 r2 r3 ∧ Below w0.heap.size w0 w' ∧ KeepBut w w' g none := by
 have HI0 := aM hI
 have HK := aM (KeepBut.refl w g none)
 have HL := aM hB.size
 clear hI
 have HW0 := aM hB.size
 have HB := aM hB
 clear hB
 have H := h; clear h; unfold spec_l1Cur_moves.f at H
 replace H := jS H; obtain ⟨⟨t452, t453, t454⟩, A3, H⟩ := H; dsimp only at H
 have HC4 := aM H
 clear H
 go_enter Tryd.func47, Tryd.ntmps47
 go_upto_block 0 with (first | ((with_reducible refine gC 62 rfl ?_); refine gL (some 12) Tryd.func62 #[.pointer (some ⟨g, 0, none⟩), .int .i64 12] ?_; (with_reducible refine (spec_l1Cur_pick.calls g s0_0 s0_1 s0_2 12 t452 t453 t454 w0 _ ?side1 ?side2 A3.out).mono ?_); (case side1 => repeat (first | (with_reducible first | exact HI0.out | apply IsS60.alloc | apply IsS60.drewN | apply IsS60.drew | apply IsS60.set_1 | apply IsS60.set_2) | exact HI0.out)); (case side2 => repeat (first | (with_reducible first | exact HB.out | apply bA | apply bN | apply bD | refine bS ?_ (IsS60.ge HI0.out)) | exact HB.out)); rintro e w5 ⟨rfl, hi, hb, hk⟩; refine ⟨_, rfl, ?_⟩; replace HK := aM (KeepBut.trans HK.out hk (.inl rfl)); replace HB := aM (hb); replace HI0 := aM (hi); (try clear hb)))
 (try simp only [Act.put, sA, sB, sC])
 go_cut [5] (fun v5 wc => ∃ (kq : Nat) (x5_3 : List Int) (x1001_3 : Int) (x1002_3 : Int), Aside0 (spec_l1Cur_moves.j1 kq x5_3 s0_0 x1001_3 x1002_3 = some (r1, r2, r3)) ∧ Aside0 (kq ≤ k) ∧ Aside0 (Kd.R (Kd.int .i64) 3 wc w.heap.size (fun _ => True) v5 x5_3) ∧ Aside0 (IsS60 w0 wc g s0_0 x1001_3 x1002_3) ∧ Aside0 (KeepBut w wc g none) ∧ Aside0 (Below w0.heap.size w0 wc))
 case first =>
  have H := HC4.out
  clear HC4
  have H' := aM H
  clear H
  go_wp2
  go_loopg [5, 6, 7] k (fun kq v5 v6 v7 w' => ∃ (x5_1 : List Int) (x6_1 : ByteArray) (x7_1 : Int) (x1001_1 : Int) (x1002_1 : Int), v6 = .string x6_1 ∧ v7 = .int .i64 x7_1 ∧ Aside0 (spec_l1Cur_moves.l0 kq x5_1 x6_1 x7_1 s0_0 x1001_1 x1002_1 = some (r1, r2, r3)) ∧ Aside0 (kq ≤ k) ∧ Aside0 (Kd.R (Kd.int .i64) 3 w' w.heap.size (fun _ => True) v5 x5_1) ∧ Aside0 (IsS60 w0 w' g s0_0 x1001_1 x1002_1) ∧ Aside0 (KeepBut w w' g none) ∧ Aside0 (Below w0.heap.size w0 w'))
  case atStart => exact ⟨(([] : List Int)), (a1), (t452), (t453), (t454), rfl, rfl, H', ⟨Nat.le_refl _⟩, ⟨by first | exact Kd.R_nil _ _ _ _ _ | exact Kd.N_nil _ _ _ _ _ | exact Kd.V_nil _ _ _ _ _ | exact Kd.Q_nil _ _ _ _ _ | exact Kd.S_nil _ _ _ _ _⟩, ⟨by repeat (first | (with_reducible first | exact HI0.out | apply IsS60.alloc | apply IsS60.drewN | apply IsS60.drew | apply IsS60.set_1 | apply IsS60.set_2) | exact HI0.out)⟩, HK, ⟨by repeat (first | (with_reducible first | exact HB.out | apply bA | apply bN | apply bD | refine bS ?_ (IsS60.ge HI0.out)) | exact HB.out)⟩⟩
  case round =>
   clear H'
   obtain ⟨x5_1, x6_1, x7_1, x1001_1, x1002_1, rfl, rfl, HA, HK1, HO_5, HI0, HK, HB⟩ := hrel
   cases gk with
   | zero => exact absurd HA.out (by simp [spec_l1Cur_moves.l0])
   | succ k1 =>
    have H := HA.out
    clear HA
    simp only [spec_l1Cur_moves.l0] at H
    replace H := iE H; obtain ⟨c6b0, H⟩ | ⟨c6b0, H⟩ := H
    ·(first | rw [c6b0] | (simp only [i64_w, i32_w]; rw [c6b0]) | skip)
     replace H := jS H; obtain ⟨t455, A7, H⟩ := H
     by_cases c8 : t455 = true
     ·subst c8
      replace H := jT H
      replace H := jS H; obtain ⟨t456, A9, H⟩ := H
      replace H := jS H; obtain ⟨⟨t459, t460, t461⟩, A10, H⟩ := H; dsimp only at H
      replace H := iC H; obtain ⟨c11, H⟩ := H
      have c11b0 := decide_eq_true c11
      clear c11
      replace H := iN H; obtain ⟨c12b0, H⟩ := H
      replace H := iC H; obtain ⟨c13, H⟩ := H
      have LMc13 := aM c13
      clear c13
      obtain ⟨y463, Ny463, h_⟩ := yG (α := List Int) (x5_1 ++ [rd t456 t459]); rw [← h_] at H; clear h_
      replace H := jS H; obtain ⟨t466, A14, H⟩ := H
      have H' := aM H
      clear H
      go_wp2_with (first | ((with_reducible refine gC 64 rfl ?_); refine gL (some 18) Tryd.func64 #[.string x6_1] ?_; (with_reducible refine (spec_riGood.calls k1 x6_1 true _ A7.out).mono ?_); rintro e w' ⟨rfl, ⟨nd, rfl⟩⟩; refine ⟨_, rfl, ?_⟩) | ((with_reducible refine gC 65 rfl ?_); refine gL (some 21) Tryd.func65 #[.string x6_1] ?_; (with_reducible refine (spec_riMoves.calls k1 x6_1 t456 _ A9.out).mono ?_); rintro e w15 ⟨v457, rfl, ho0, hb⟩; refine ⟨_, rfl, ?_⟩; have HO458 := aM (Kd.R_lower (Kd.R_new' ho0 (Kd.R_lt (rQ HO_5.out))) (keep_size (w := w) (g := g) (row := none) (by repeat first | exact HK.out | apply KeepBut.set_ | apply keep_drewN | apply keep_drew | apply keep_alloc))); replace HO_5 := aM (Kd.R_elder' (rQ HO_5.out) (Kd.R_base ho0) hb); replace HK := aM (KeepBut.trans (by repeat first | exact HK.out | apply KeepBut.set_ | apply keep_drewN | apply keep_drew | apply keep_alloc) (KeepBut.of_below hb g none) (.inl rfl)); replace HB := aM (below_step (by repeat (first | (with_reducible first | exact HB.out | apply bA | apply bN | apply bD | refine bS ?_ (IsS60.ge HI0.out)) | exact HB.out)) hb); replace HI0 := aM (IsS60.below (by repeat (first | (with_reducible first | exact HI0.out | apply IsS60.alloc | apply IsS60.drewN | apply IsS60.drew | apply IsS60.set_1 | apply IsS60.set_2) | exact HI0.out)) hb); (try clear hb); (try clear ho0); obtain ⟨Ao16, co16, eo16⟩ := Kd.R_slice HO458.out; subst eo16) | ((with_reducible refine gC 62 rfl ?_); refine gL (some 26) Tryd.func62 #[.pointer (some ⟨g, 0, none⟩), .int .i64 (t456.length : Int)] ?_; (with_reducible refine (spec_l1Cur_pick.calls g s0_0 x1001_1 x1002_1 (t456.length : Int) t459 t460 t461 w0 _ ?side1 ?side2 A10.out).mono ?_); (case side1 => repeat (first | (with_reducible first | exact HI0.out | apply IsS60.alloc | apply IsS60.drewN | apply IsS60.drew | apply IsS60.set_1 | apply IsS60.set_2) | exact HI0.out)); (case side2 => repeat (first | (with_reducible first | exact HB.out | apply bA | apply bN | apply bD | refine bS ?_ (IsS60.ge HI0.out)) | exact HB.out)); rintro e w17 ⟨rfl, hi, hb, hk⟩; refine ⟨_, rfl, ?_⟩; replace HO_5 := aM (Kd.R_mono (Kd.R_keep (IsS60.apart (show IsS60 w0 _ g s0_0 x1001_1 x1002_1 from by repeat (first | (with_reducible first | exact HI0.out | apply IsS60.alloc | apply IsS60.drewN | apply IsS60.drew | apply IsS60.set_1 | apply IsS60.set_2) | exact HI0.out)) (rQ HO_5.out) (by decide)) hk (fun _ h => h.2)) (fun _ h => h.1)); replace HO458 := aM (Kd.R_mono (Kd.R_keep (IsS60.apart (show IsS60 w0 _ g s0_0 x1001_1 x1002_1 from by repeat (first | (with_reducible first | exact HI0.out | apply IsS60.alloc | apply IsS60.drewN | apply IsS60.drew | apply IsS60.set_1 | apply IsS60.set_2) | exact HI0.out)) (rQ HO458.out) (by decide)) hk (fun _ h => h.2)) (fun _ h => h.1)); replace HK := aM (KeepBut.trans (by repeat first | exact HK.out | apply KeepBut.set_ | apply keep_drewN | apply keep_drew | apply keep_alloc) hk (.inl rfl)); replace HB := aM (hb); replace HI0 := aM (hi); (try clear hb); obtain ⟨ad462, e462, hx462_0, p462, q462⟩ := aZ (Kd.at_int (Kd.R_reads' HO458.out).2.2 t459); cases e462) | ((with_reducible refine gate_builtin (b := .append) (xs := #[.tmp 29, .tmp 31]) rfl ?_); at_builtin; refine Kd.R_append (Kd.int .i64) w.heap.size rfl (.tmp 29) (.tmp 31) 26 3 (.int .i64 0) 8 rfl Tryd.underlying26 info3 rfl (by decide) (by omega) u5 x5_1 (rd t456 t459) [.int .i64 (rd t456 t459)] (fun k_ => some k_ ≠ (.slice (some ad462) t456.length co16 : Value).ownBlock) (fun _ => False) rfl rfl ?aP (fun _ hk => hk.elim) ?aF ?aO (Below.refl _ _) ?aS ?aL ?_; (case aP => exact rfl); (case aF => exact (fun k_ hk => Kd.fresh' (Kd.R_lt (rQ HO458.out)) k_ hk)); (case aO => exact (by (with_reducible repeat (first | apply rA | apply rN | apply rD)); exact Kd.R_mono HO_5.out (fun _ hk => hk.2))); (case aS => exact (keep_size (w := w) (g := g) (row := none) (by repeat first | exact HK.out | apply KeepBut.set_ | apply keep_drewN | apply keep_drew | apply keep_alloc))); (case aL => have := LMc13.out; omega); intro v464 w18 ho hb hg hat; rw [← Ny463.out] at ho; replace HO458 := aM (Kd.R_after (ok := (fun _ => True)) (rQ HO458.out) hg hat); replace HB := aM (below_weaken (by repeat (first | (with_reducible first | exact HB.out | apply bA | apply bN | apply bD | refine bS ?_ (IsS60.ge HI0.out)) | exact HB.out)) HL.out hb); replace HI0 := aM (IsS60.grown (by repeat (first | (with_reducible first | exact HI0.out | apply IsS60.alloc | apply IsS60.drewN | apply IsS60.drew | apply IsS60.set_1 | apply IsS60.set_2) | exact HI0.out)) hg (IsS60.own_ne HI0.out HO_5.out (by decide))); replace HK := aM (KeepBut.trans (by repeat first | exact HK.out | apply KeepBut.set_ | apply keep_drewN | apply keep_drew | apply keep_alloc) (KeepBut.of_grown hg g) (Kd.R_base2 HO_5.out)); have HO465 := aM (ho); clear ho hb hg hat) | ((with_reducible refine gC 66 rfl ?_); refine gL (some 35) Tryd.func66 #[.string x6_1, .int .i64 (rd t456 t459)] ?_; (with_reducible refine (spec_riMove.calls x6_1 (rd t456 t459) t466 _ A14.out).mono ?_); rintro e w' ⟨rfl, ⟨nd, rfl⟩⟩; refine ⟨_, rfl, ?_⟩))
      go_roundg k1
      case measure => have := HK1.out; omega
      case rel => exact ⟨(y463), (t466), (wrap64 (x7_1 - 1)), (t460), (t461), rfl, rfl, H', ⟨by have := HK1.out; omega⟩, ⟨Kd.R_mono HO465.out (fun _ hk => trivial)⟩, ⟨by repeat (first | (with_reducible first | exact HI0.out | apply IsS60.alloc | apply IsS60.drewN | apply IsS60.drew | apply IsS60.set_1 | apply IsS60.set_2) | exact HI0.out)⟩, HK, ⟨by repeat (first | (with_reducible first | exact HB.out | apply bA | apply bN | apply bD | refine bS ?_ (IsS60.ge HI0.out)) | exact HB.out)⟩⟩
     ·replace c8 := Bool.eq_false_iff.mpr c8
      subst c8
      replace H := jF H
      have H' := aM H
      clear H
      go_wp2_with (first | ((with_reducible refine gC 64 rfl ?_); refine gL (some 18) Tryd.func64 #[.string x6_1] ?_; (with_reducible refine (spec_riGood.calls k1 x6_1 false _ A7.out).mono ?_); rintro e w' ⟨rfl, ⟨nd, rfl⟩⟩; refine ⟨_, rfl, ?_⟩))
      go_meet
      case rel => exact ⟨_, (x5_1), (x1001_1), (x1002_1), H', ⟨by have := HK1.out; first | omega | exact Nat.le_refl _⟩, HO_5, ⟨by repeat (first | (with_reducible first | exact HI0.out | apply IsS60.alloc | apply IsS60.drewN | apply IsS60.drew | apply IsS60.set_1 | apply IsS60.set_2) | exact HI0.out)⟩, HK, ⟨by repeat (first | (with_reducible first | exact HB.out | apply bA | apply bN | apply bD | refine bS ?_ (IsS60.ge HI0.out)) | exact HB.out)⟩⟩
    ·(first | rw [c6b0] | (simp only [i64_w, i32_w]; rw [c6b0]) | skip)
     have H' := aM H
     clear H
     go_wp2
     go_meet
     case rel => exact ⟨_, (x5_1), (x1001_1), (x1002_1), H', ⟨by have := HK1.out; first | omega | exact Nat.le_refl _⟩, HO_5, ⟨by repeat (first | (with_reducible first | exact HI0.out | apply IsS60.alloc | apply IsS60.drewN | apply IsS60.drew | apply IsS60.set_1 | apply IsS60.set_2) | exact HI0.out)⟩, HK, ⟨by repeat (first | (with_reducible first | exact HB.out | apply bA | apply bN | apply bD | refine bS ?_ (IsS60.ge HI0.out)) | exact HB.out)⟩⟩
 case rest =>
  clear HC4
  obtain ⟨kq, x5_3, x1001_3, x1002_3, HA, HJ3, HO_5, HI0, HK, HB⟩ := hcut
  cases kq with
  | zero => exact absurd HA.out (by simp [spec_l1Cur_moves.j1])
  | succ kj3 =>
   have H := HA.out
   clear HA
   simp only [spec_l1Cur_moves.j1] at H
   replace H := jS H; obtain ⟨⟨t467, t468, t469⟩, A19, H⟩ := H; dsimp only at H
   by_cases c20 : t467 = true
   ·subst c20
    replace H := jT H
    obtain ⟨y470, Ny470, h_⟩ := yG (α := List Int) (([0, 1, 2, 5, (-1), 20, 4611686018427387904] : List Int)); rw [← h_] at H; clear h_
    replace H := jS H; obtain ⟨⟨t473, t474, t475⟩, A21, H⟩ := H; dsimp only at H
    replace H := iC H; obtain ⟨c22, H⟩ := H
    have LMc22 := aM c22
    clear c22
    obtain ⟨y476, Ny476, h_⟩ := yG (α := List Int) (x5_3 ++ [t473]); rw [← h_] at H; clear h_
    simp only [Option.some.injEq, Prod.mk.injEq] at H
    obtain ⟨rfl, rfl, rfl⟩ := H
    go_wp2_with (first | ((with_reducible refine gC 46 rfl ?_); refine gL (some 37) Tryd.func46 #[.pointer (some ⟨g, 0, none⟩), .int .i64 4] ?_; (with_reducible refine (spec_l1Cur_one.calls g s0_0 x1001_3 x1002_3 4 true t468 t469 w0 _ ?side1 ?side2 A19.out).mono ?_); (case side1 => repeat (first | (with_reducible first | exact HI0.out | apply IsS60.alloc | apply IsS60.drewN | apply IsS60.drew | apply IsS60.set_1 | apply IsS60.set_2) | exact HI0.out)); (case side2 => repeat (first | (with_reducible first | exact HB.out | apply bA | apply bN | apply bD | refine bS ?_ (IsS60.ge HI0.out)) | exact HB.out)); rintro e w23 ⟨rfl, hi, hb, hk⟩; refine ⟨_, rfl, ?_⟩; replace HO_5 := aM (Kd.R_mono (Kd.R_keep (IsS60.apart (show IsS60 w0 _ g s0_0 x1001_3 x1002_3 from by repeat (first | (with_reducible first | exact HI0.out | apply IsS60.alloc | apply IsS60.drewN | apply IsS60.drew | apply IsS60.set_1 | apply IsS60.set_2) | exact HI0.out)) HO_5.out (by decide)) hk (fun _ h => h.2)) (fun _ h => h.1)); replace HK := aM (KeepBut.trans HK.out hk (.inl rfl)); replace HB := aM (hb); replace HI0 := aM (hi); (try clear hb)) | ((with_reducible refine gate_dst (N := 40) rfl ?_); refine Kd.R_lit (Kd.int .i64) _ 3 ?hg (N := 40) ?hd (xs := ([0, 1, 2, 5, (-1), 20, 4611686018427387904] : List Int)) (inner := [.int .i64 0, .int .i64 1, .int .i64 2, .int .i64 5, .int .i64 (-1), .int .i64 20, .int .i64 4611686018427387904]) (ok := fun _ => True) (okp := fun _ => True) ?hr ?hp (fun _ hk => hk) trivial (Below.refl _ _) (Nat.le_refl _) (by simp) ?_; (case hd => rfl); (case hg => rfl); (case hr => go_simp); (case hp => exact (Reps.one (show Kd.M (Kd.int .i64) _ _ _ 0 [.int .i64 0] from rfl) (Reps.one (show Kd.M (Kd.int .i64) _ _ _ 1 [.int .i64 1] from rfl) (Reps.one (show Kd.M (Kd.int .i64) _ _ _ 2 [.int .i64 2] from rfl) (Reps.one (show Kd.M (Kd.int .i64) _ _ _ 5 [.int .i64 5] from rfl) (Reps.one (show Kd.M (Kd.int .i64) _ _ _ (-1) [.int .i64 (-1)] from rfl) (Reps.one (show Kd.M (Kd.int .i64) _ _ _ 20 [.int .i64 20] from rfl) (Reps.one (show Kd.M (Kd.int .i64) _ _ _ 4611686018427387904 [.int .i64 4611686018427387904] from rfl) (Reps.none _ _))))))))); intro v471 w24 ho25 hb hg_ hnew_; clear hg_ hnew_; rw [← Ny470.out] at ho25; have HO472 := aM (Kd.R_lower (Kd.R_new' ho25 (Kd.R_lt HO_5.out)) (keep_size (w := w) (g := g) (row := none) HK.out)); replace HO_5 := aM (Kd.R_elder' HO_5.out (Kd.R_base ho25) hb); replace HK := aM (KeepBut.trans HK.out (KeepBut.of_below hb g none) (.inl rfl)); replace HB := aM (below_step (by repeat (first | (with_reducible first | exact HB.out | apply bA | apply bN | apply bD | refine bS ?_ (IsS60.ge HI0.out)) | exact HB.out)) hb); replace HI0 := aM (IsS60.below (by repeat (first | (with_reducible first | exact HI0.out | apply IsS60.alloc | apply IsS60.drewN | apply IsS60.drew | apply IsS60.set_1 | apply IsS60.set_2) | exact HI0.out)) hb); clear hb ho25; obtain ⟨Ao26, co26, eo26⟩ := Kd.R_slice HO472.out; subst eo26) | ((with_reducible refine gC 52 rfl ?_); refine gL (some 41) Tryd.func52 #[.pointer (some ⟨g, 0, none⟩), .slice Ao26 y470.length co26] ?_; (with_reducible refine (spec_l1Cur_among.calls g s0_0 t468 t469 _ _ y470 t473 t474 t475 w0 _ ?side1 ?side2 ?side3 ?side4 ?side5 A21.out).mono ?_); (case side1 => repeat (first | (with_reducible first | exact HI0.out | apply IsS60.alloc | apply IsS60.drewN | apply IsS60.drew | apply IsS60.set_1 | apply IsS60.set_2) | exact HI0.out)); (case side2 => repeat (first | (with_reducible first | exact HB.out | apply bA | apply bN | apply bD | refine bS ?_ (IsS60.ge HI0.out)) | exact HB.out)); (case side3 => repeat (first | exact (Kd.R_reads' HO472.out).2.2 | (with_reducible refine cA ?_ _) | (with_reducible refine cN ?_ _) | (with_reducible refine cD ?_))); (case side4 => exact (Kd.R_reads' HO472.out).2.1); (case side5 => exact far_slice (IsS60.own_ne HI0.out HO472.out (by decide))); rintro e w27 ⟨rfl, hi, hb, hk⟩; refine ⟨_, rfl, ?_⟩; replace HO_5 := aM (Kd.R_mono (Kd.R_keep (IsS60.apart (show IsS60 w0 _ g s0_0 t468 t469 from by repeat (first | (with_reducible first | exact HI0.out | apply IsS60.alloc | apply IsS60.drewN | apply IsS60.drew | apply IsS60.set_1 | apply IsS60.set_2) | exact HI0.out)) HO_5.out (by decide)) hk (fun _ h => h.2)) (fun _ h => h.1)); replace HO472 := aM (Kd.R_mono (Kd.R_keep (IsS60.apart (show IsS60 w0 _ g s0_0 t468 t469 from by repeat (first | (with_reducible first | exact HI0.out | apply IsS60.alloc | apply IsS60.drewN | apply IsS60.drew | apply IsS60.set_1 | apply IsS60.set_2) | exact HI0.out)) HO472.out (by decide)) hk (fun _ h => h.2)) (fun _ h => h.1)); replace HK := aM (KeepBut.trans HK.out hk (.inl rfl)); replace HB := aM (hb); replace HI0 := aM (hi); (try clear hb)) | ((with_reducible refine gate_builtin (b := .append) (xs := #[.tmp 38, .tmp 42]) rfl ?_); at_builtin; refine Kd.R_append (Kd.int .i64) w.heap.size rfl (.tmp 38) (.tmp 42) 26 3 (.int .i64 0) 8 rfl Tryd.underlying26 info3 rfl (by decide) (by omega) u5 x5_3 t473 [.int .i64 t473] (fun k_ => some k_ ≠ (.slice Ao26 y470.length co26 : Value).ownBlock) (fun _ => False) rfl rfl ?aP (fun _ hk => hk.elim) ?aF ?aO (Below.refl _ _) ?aS ?aL ?_; (case aP => exact rfl); (case aF => exact (fun k_ hk => Kd.fresh' (Kd.R_lt HO472.out) k_ hk)); (case aO => exact (Kd.R_mono HO_5.out (fun _ hk => hk.2))); (case aS => exact (keep_size (w := w) (g := g) (row := none) HK.out)); (case aL => have := LMc22.out; omega); intro v477 w28 ho hb hg hat; rw [← Ny476.out] at ho; replace HO472 := aM (Kd.R_after (ok := (fun _ => True)) HO472.out hg hat); replace HB := aM (below_weaken (by repeat (first | (with_reducible first | exact HB.out | apply bA | apply bN | apply bD | refine bS ?_ (IsS60.ge HI0.out)) | exact HB.out)) HL.out hb); replace HI0 := aM (IsS60.grown (by repeat (first | (with_reducible first | exact HI0.out | apply IsS60.alloc | apply IsS60.drewN | apply IsS60.drew | apply IsS60.set_1 | apply IsS60.set_2) | exact HI0.out)) hg (IsS60.own_ne HI0.out HO_5.out (by decide))); replace HK := aM (KeepBut.trans HK.out (KeepBut.of_grown hg g) (Kd.R_base2 HO_5.out)); have HO478 := aM (ho); clear ho hb hg hat))
    go_ret
    exact ⟨_, rfl, by (with_reducible repeat (first | apply rA | apply rN | apply rD)); exact Kd.R_mono HO478.out (fun _ hk => trivial), by repeat (first | (with_reducible first | exact HI0.out | apply IsS60.alloc | apply IsS60.drewN | apply IsS60.drew | apply IsS60.set_1 | apply IsS60.set_2) | exact HI0.out), by repeat (first | (with_reducible first | exact HB.out | apply bA | apply bN | apply bD | refine bS ?_ (IsS60.ge HI0.out)) | exact HB.out), HK.out⟩
   ·replace c20 := Bool.eq_false_iff.mpr c20
    subst c20
    replace H := jF H
    simp only [Option.some.injEq, Prod.mk.injEq] at H
    obtain ⟨rfl, rfl, rfl⟩ := H
    go_wp2_with (first | ((with_reducible refine gC 46 rfl ?_); refine gL (some 37) Tryd.func46 #[.pointer (some ⟨g, 0, none⟩), .int .i64 4] ?_; (with_reducible refine (spec_l1Cur_one.calls g s0_0 x1001_3 x1002_3 4 false t468 t469 w0 _ ?side1 ?side2 A19.out).mono ?_); (case side1 => repeat (first | (with_reducible first | exact HI0.out | apply IsS60.alloc | apply IsS60.drewN | apply IsS60.drew | apply IsS60.set_1 | apply IsS60.set_2) | exact HI0.out)); (case side2 => repeat (first | (with_reducible first | exact HB.out | apply bA | apply bN | apply bD | refine bS ?_ (IsS60.ge HI0.out)) | exact HB.out)); rintro e w29 ⟨rfl, hi, hb, hk⟩; refine ⟨_, rfl, ?_⟩; replace HO_5 := aM (Kd.R_mono (Kd.R_keep (IsS60.apart (show IsS60 w0 _ g s0_0 x1001_3 x1002_3 from by repeat (first | (with_reducible first | exact HI0.out | apply IsS60.alloc | apply IsS60.drewN | apply IsS60.drew | apply IsS60.set_1 | apply IsS60.set_2) | exact HI0.out)) HO_5.out (by decide)) hk (fun _ h => h.2)) (fun _ h => h.1)); replace HK := aM (KeepBut.trans HK.out hk (.inl rfl)); replace HB := aM (hb); replace HI0 := aM (hi); (try clear hb)))
    go_ret
    exact ⟨_, rfl, HO_5.out, by repeat (first | (with_reducible first | exact HI0.out | apply IsS60.alloc | apply IsS60.drewN | apply IsS60.drew | apply IsS60.set_1 | apply IsS60.set_2) | exact HI0.out), by repeat (first | (with_reducible first | exact HB.out | apply bA | apply bN | apply bD | refine bS ?_ (IsS60.ge HI0.out)) | exact HB.out), HK.out⟩

/-! ### spec_DrawPlayPairMoves: function 21 (told by hand) -/
def spec_DrawPlayPairMoves.j0 : Nat → ByteArray → ByteArray → Bool → List Int → Int → Int → Option (ByteArray × List Int × Int × Int)
 | 0, _, _, _, _, _, _ => none
 | k + 1, x5, x6, x22, x1000, x1001, x1002 => if x22 = true then ((spec_twFirst.f k x5 x6).bind fun t489 => (some (x5, t489, x1001, x1002))) else ((spec_l1Cur_moves.f k x1000 x1001 x1002 x5).bind fun bt492 => (some (x5, bt492.1, bt492.2.1, bt492.2.2)))
def spec_DrawPlayPairMoves.g (k : Nat) (s0_0 : List Int) (s0_1 : Int) (s0_2 : Int) : Option (ByteArray × List Int × Int × Int) := (spec_l1Cur_pair.f k s0_0 s0_1 s0_2).bind fun bt481 => ((spec_twTwo.f k bt481.1 bt481.2.1).bind fun t485 => (if t485 = true then ((spec_l1Cur_one.f s0_0 bt481.2.2.1 bt481.2.2.2 3).bind fun bt486 => (spec_DrawPlayPairMoves.j0 k bt481.1 bt481.2.1 (!bt486.1) s0_0 bt486.2.1 bt486.2.2)) else (spec_DrawPlayPairMoves.j0 k bt481.1 bt481.2.1 false s0_0 bt481.2.2.1 bt481.2.2.2)))
def spec_DrawPlayPairMoves.f (k : Nat) (l0 : List Int) : Option (ByteArray × List Int) := (spec_DrawPlayPairMoves.g k l0 0 0).bind fun b_ => some (b_.1, b_.2.1)
theorem spec_DrawPlayPairMoves.mono_l : ∀ k, (∀ y0 y1 y2 y3 y4 y5, LeO (spec_DrawPlayPairMoves.j0 k y0 y1 y2 y3 y4 y5) (spec_DrawPlayPairMoves.j0 (k + 1) y0 y1 y2 y3 y4 y5))
 | 0 => fun _ _ _ _ _ _ r h => by simp [spec_DrawPlayPairMoves.j0] at h
 | k + 1 => by
  have ih0 := spec_DrawPlayPairMoves.mono_l k
  ·intro y0 y1 y2 y3 y4 y5
   unfold spec_DrawPlayPairMoves.j0
   with_reducible repeat' first | exact ih0 _ _ _ _ _ _ | exact spec_l1Cur_moves.mono _ _ _ _ _ | exact spec_l1Cur_pair.mono _ _ _ _ | exact spec_twFirst.mono _ _ _ | exact spec_twTwo.mono _ _ _ | exact LeO.refl _ | exact LeO.none _ | refine LeO.ite ?_ ?_ | refine LeO.bind ?_ (fun _ => ?_)
theorem spec_DrawPlayPairMoves.mono_g : ∀ a0 a1 a2 k, LeO (spec_DrawPlayPairMoves.g k a0 a1 a2) (spec_DrawPlayPairMoves.g (k + 1) a0 a1 a2) := by
 intro a0 a1 a2 k
 have ih0 := spec_DrawPlayPairMoves.mono_l k
 unfold spec_DrawPlayPairMoves.g
 with_reducible repeat' first | exact ih0 _ _ _ _ _ _ | exact spec_l1Cur_moves.mono _ _ _ _ _ | exact spec_l1Cur_pair.mono _ _ _ _ | exact spec_twFirst.mono _ _ _ | exact spec_twTwo.mono _ _ _ | exact LeO.refl _ | exact LeO.none _ | refine LeO.ite ?_ ?_ | refine LeO.bind ?_ (fun _ => ?_)
theorem spec_DrawPlayPairMoves.mono : ∀ a0 k, LeO (spec_DrawPlayPairMoves.f k a0) (spec_DrawPlayPairMoves.f (k + 1) a0) := fun a0 k => LeO.bind (spec_DrawPlayPairMoves.mono_g a0 0 0 k) (fun _ => LeO.refl _)
set_option maxHeartbeats 8000000 in
set_option maxRecDepth 100000 in
theorem spec_DrawPlayPairMoves.calls (k : Nat) (A0 : Option Addr) (c0 : Nat) (l0 : List Int) (r1 : ByteArray) (r2 : List Int) (w : World) (hr0 : Kd.C (Kd.int .u8) w A0 l0.length l0) (hc0 : l0.length ≤ c0) (h : spec_DrawPlayPairMoves.f k l0 = some (r1, r2)) :
  Calls Tryd.prog 21 #[.slice A0 l0.length c0] w fun e w' => ∃ v1_ : Value, e = .returned (.tuple #[.string r1, v1_]) ∧ Kd.R (Kd.int .i64) 3 w' w.heap.size (fun _ => True) v1_ r2 ∧ Below w.heap.size w w' := by
 replace h := Option.bind_eq_some_iff.mp h
 obtain ⟨⟨q1_, q2_, q3_, q4_⟩, h, hr_⟩ := h
 simp only [Option.some.injEq, Prod.mk.injEq] at hr_
 obtain ⟨rfl, rfl⟩ := hr_
 have hI : IsS60 w (w.alloc (.cells #[.slice A0 l0.length c0, .int .i64 0, .int .u64 0] 60)) w.heap.size l0 0 0 := IsS60.new w w A0 c0 l0 0 0 (Below.refl _ _) hr0
 have hB : Below w.heap.size w (w.alloc (.cells #[.slice A0 l0.length c0, .int .i64 0, .int .u64 0] 60)) := by (apply below_alloc; exact Below.refl _ _)
 have HI0 := aM hI
 have HK := aM (KeepBut.refl (w.alloc (.cells #[.slice A0 l0.length c0, .int .i64 0, .int .u64 0] 60)) w.heap.size none)
 have HL := aM hB.size
 clear hI
 have HW0 := aM hB.size
 have HB := aM hB
 clear hB
 have H : ((spec_l1Cur_pair.f k l0 0 0).bind fun bt481 => ((spec_twTwo.f k bt481.1 bt481.2.1).bind fun t485 => (if t485 = true then ((spec_l1Cur_one.f l0 bt481.2.2.1 bt481.2.2.2 3).bind fun bt486 => (spec_DrawPlayPairMoves.j0 k bt481.1 bt481.2.1 (!bt486.1) l0 bt486.2.1 bt486.2.2)) else (spec_DrawPlayPairMoves.j0 k bt481.1 bt481.2.1 false l0 bt481.2.2.1 bt481.2.2.2)))) = some (q1_, q2_, q3_, q4_) := h
 clear h
 replace H := Option.bind_eq_some_iff.mp H
 obtain ⟨⟨t481, t482, t483, t484⟩, A20, H⟩ := H
 replace H : ((spec_twTwo.f k t481 t482).bind fun t485 => (if t485 = true then ((spec_l1Cur_one.f l0 t483 t484 3).bind fun bt486 => (spec_DrawPlayPairMoves.j0 k t481 t482 (!bt486.1) l0 bt486.2.1 bt486.2.2)) else (spec_DrawPlayPairMoves.j0 k t481 t482 false l0 t483 t484))) = some (q1_, q2_, q3_, q4_) := H
 have A2 := aM A20
 clear A20
 have HC3 := aM H
 clear H
 go_enter Tryd.func21, Tryd.ntmps21
 go_upto_region 3 with (first | ((with_reducible refine gC 45 rfl ?_); refine gL (some 12) Tryd.func45 #[.pointer (some ⟨w.heap.size, 0, none⟩)] ?_; (with_reducible refine (spec_l1Cur_pair.calls k w.heap.size l0 0 0 t481 t482 t483 t484 w _ ?side1 ?side2 A2.out).mono ?_); (case side1 => repeat (first | (with_reducible first | exact HI0.out | apply IsS60.alloc | apply IsS60.drewN | apply IsS60.drew | apply IsS60.set_1 | apply IsS60.set_2) | exact HI0.out)); (case side2 => repeat (first | (with_reducible first | exact HB.out | apply bA | apply bN | apply bD | refine bS ?_ (IsS60.ge HI0.out)) | exact HB.out)); rintro e w4 ⟨rfl, hi, hb, hk⟩; refine ⟨_, rfl, ?_⟩; replace HK := aM (KeepBut.trans HK.out hk (.inl rfl)); replace HB := aM (hb); replace HI0 := aM (hi); (try clear hb)))
 (try simp only [Act.put, sA, sB, sC])
 go_cut [22] (fun v22 wc => ∃ (kq : Nat) (x22_2 : Bool) (x1001_2 : Int) (x1002_2 : Int), v22 = .bool x22_2 ∧ Aside0 (spec_DrawPlayPairMoves.j0 kq t481 t482 x22_2 l0 x1001_2 x1002_2 = some (q1_, q2_, q3_, q4_)) ∧ Aside0 (kq ≤ k) ∧ Aside0 (IsS60 w wc w.heap.size l0 x1001_2 x1002_2) ∧ Aside0 (KeepBut (w.alloc (.cells #[.slice A0 l0.length c0, .int .i64 0, .int .u64 0] 60)) wc w.heap.size none) ∧ Aside0 (Below w.heap.size w wc))
 case first =>
  have H := HC3.out
  clear HC3
  replace H := Option.bind_eq_some_iff.mp H
  obtain ⟨t485, A50, H⟩ := H
  replace H : (if t485 = true then ((spec_l1Cur_one.f l0 t483 t484 3).bind fun bt486 => (spec_DrawPlayPairMoves.j0 k t481 t482 (!bt486.1) l0 bt486.2.1 bt486.2.2)) else (spec_DrawPlayPairMoves.j0 k t481 t482 false l0 t483 t484)) = some (q1_, q2_, q3_, q4_) := H
  have A5 := aM A50
  clear A50
  by_cases c6 : t485 = true
  ·subst c6
   have H1 : ((spec_l1Cur_one.f l0 t483 t484 3).bind fun bt486 => (spec_DrawPlayPairMoves.j0 k t481 t482 (!bt486.1) l0 bt486.2.1 bt486.2.2)) = some (q1_, q2_, q3_, q4_) := by rw [if_pos rfl] at H; exact H
   clear H; have H := H1; clear H1
   replace H := Option.bind_eq_some_iff.mp H
   obtain ⟨⟨t486, t487, t488⟩, A70, H⟩ := H
   replace H : (spec_DrawPlayPairMoves.j0 k t481 t482 (!t486) l0 t487 t488) = some (q1_, q2_, q3_, q4_) := H
   have A7 := aM A70
   clear A70
   have H' := aM H
   clear H
   go_wp2_with (first | ((with_reducible refine gC 36 rfl ?_); refine gL (some 17) Tryd.func36 #[.string t481, .string t482] ?_; (with_reducible refine (spec_twTwo.calls k t481 t482 true _ A5.out).mono ?_); rintro e w' ⟨rfl, ⟨nd, rfl⟩⟩; refine ⟨_, rfl, ?_⟩) | (go_at_call 46; (with_reducible refine (spec_l1Cur_one.calls w.heap.size l0 t483 t484 3 t486 t487 t488 w _ ?side1 ?side2 A7.out).mono ?_); (case side1 => repeat (first | (with_reducible first | exact HI0.out | apply IsS60.alloc | apply IsS60.drewN | apply IsS60.drew | apply IsS60.set_1 | apply IsS60.set_2) | exact HI0.out)); (case side2 => repeat (first | (with_reducible first | exact HB.out | apply bA | apply bN | apply bD | refine bS ?_ (IsS60.ge HI0.out)) | exact HB.out)); rintro e w8 ⟨rfl, hi, hb, hk⟩; replace HK := aM (KeepBut.trans HK.out hk (.inl rfl)); replace HB := aM (hb); replace HI0 := aM (hi); (try clear hb)))
   go_meet
   case rel => exact ⟨_, (!t486), (t487), (t488), rfl, H', ⟨by omega⟩, ⟨by repeat (first | (with_reducible first | exact HI0.out | apply IsS60.alloc | apply IsS60.drewN | apply IsS60.drew | apply IsS60.set_1 | apply IsS60.set_2) | exact HI0.out)⟩, HK, ⟨by repeat (first | (with_reducible first | exact HB.out | apply bA | apply bN | apply bD | refine bS ?_ (IsS60.ge HI0.out)) | exact HB.out)⟩⟩
  ·replace c6 := Bool.eq_false_iff.mpr c6
   subst c6
   have H1 : (spec_DrawPlayPairMoves.j0 k t481 t482 false l0 t483 t484) = some (q1_, q2_, q3_, q4_) := by rw [if_neg (show ¬ (false = true) by decide)] at H; exact H
   clear H; have H := H1; clear H1
   have H' := aM H
   clear H
   go_wp2_with (first | ((with_reducible refine gC 36 rfl ?_); refine gL (some 17) Tryd.func36 #[.string t481, .string t482] ?_; (with_reducible refine (spec_twTwo.calls k t481 t482 false _ A5.out).mono ?_); rintro e w' ⟨rfl, ⟨nd, rfl⟩⟩; refine ⟨_, rfl, ?_⟩))
   go_meet
   case rel => exact ⟨_, (false), (t483), (t484), rfl, H', ⟨by omega⟩, ⟨by repeat (first | (with_reducible first | exact HI0.out | apply IsS60.alloc | apply IsS60.drewN | apply IsS60.drew | apply IsS60.set_1 | apply IsS60.set_2) | exact HI0.out)⟩, HK, ⟨by repeat (first | (with_reducible first | exact HB.out | apply bA | apply bN | apply bD | refine bS ?_ (IsS60.ge HI0.out)) | exact HB.out)⟩⟩
 case rest =>
  clear HC3
  try clear c2
  try clear p2
  try clear c3
  try clear c4
  try clear c6
  obtain ⟨kq, x22_2, x1001_2, x1002_2, rfl, HA, HJ2, HI0, HK, HB⟩ := hcut
  cases kq with
  | zero => exact absurd HA.out (by simp [spec_DrawPlayPairMoves.j0])
  | succ kj2 =>
   have H := HA.out
   clear HA
   simp only [spec_DrawPlayPairMoves.j0] at H
   by_cases c9 : x22_2 = true
   ·subst c9
    have H1 : ((spec_twFirst.f kj2 t481 t482).bind fun t489 => (some (t481, t489, x1001_2, x1002_2))) = some (q1_, q2_, q3_, q4_) := by rw [if_pos rfl] at H; exact H
    clear H; have H := H1; clear H1
    replace H := Option.bind_eq_some_iff.mp H
    obtain ⟨t489, A100, H⟩ := H
    replace H : (some (t481, t489, x1001_2, x1002_2)) = some (q1_, q2_, q3_, q4_) := H
    have A10 := aM A100
    clear A100
    simp only [Option.some.injEq, Prod.mk.injEq] at H
    obtain ⟨rfl, rfl, rfl, rfl⟩ := H
    go_wp2_with (first | ((with_reducible refine gC 37 rfl ?_); refine gL (some 26) Tryd.func37 #[.string t481, .string t482] ?_; (with_reducible refine (spec_twFirst.calls kj2 t481 t482 t489 _ A10.out).mono ?_); rintro e w11 ⟨v490, rfl, ho0, hb⟩; refine ⟨_, rfl, ?_⟩; have HO491 := aM (Kd.R_lower ho0 (keep_size (w := (w.alloc (.cells #[.slice A0 l0.length c0, .int .i64 0, .int .u64 0] 60))) (g := w.heap.size) (row := none) HK.out)); replace HK := aM (KeepBut.trans HK.out (KeepBut.of_below hb w.heap.size none) (.inl rfl)); replace HB := aM (below_step (by repeat (first | (with_reducible first | exact HB.out | apply bA | apply bN | apply bD | refine bS ?_ (IsS60.ge HI0.out)) | exact HB.out)) hb); replace HI0 := aM (IsS60.below (by repeat (first | (with_reducible first | exact HI0.out | apply IsS60.alloc | apply IsS60.drewN | apply IsS60.drew | apply IsS60.set_1 | apply IsS60.set_2) | exact HI0.out)) hb); (try clear hb); (try clear ho0)))
    go_ret2
    exact ⟨_, rfl, Kd.R_lower HO491.out HL.out, by repeat (first | (with_reducible first | exact HB.out | apply bA | apply bN | apply bD | refine bS ?_ (IsS60.ge HI0.out)) | exact HB.out)⟩
   ·replace c9 := Bool.eq_false_iff.mpr c9
    subst c9
    have H1 : ((spec_l1Cur_moves.f kj2 l0 x1001_2 x1002_2 t481).bind fun bt492 => (some (t481, bt492.1, bt492.2.1, bt492.2.2))) = some (q1_, q2_, q3_, q4_) := by rw [if_neg (show ¬ (false = true) by decide)] at H; exact H
    clear H; have H := H1; clear H1
    replace H := Option.bind_eq_some_iff.mp H
    obtain ⟨⟨t492, t495, t496⟩, A120, H⟩ := H
    replace H : (some (t481, t492, t495, t496)) = some (q1_, q2_, q3_, q4_) := H
    have A12 := aM A120
    clear A120
    simp only [Option.some.injEq, Prod.mk.injEq] at H
    obtain ⟨rfl, rfl, rfl, rfl⟩ := H
    go_wp2_with (first | ((with_reducible refine gC 47 rfl ?_); refine gL (some 30) Tryd.func47 #[.pointer (some ⟨w.heap.size, 0, none⟩), .string t481] ?_; (with_reducible refine (spec_l1Cur_moves.calls kj2 w.heap.size l0 x1001_2 x1002_2 t481 t492 t495 t496 w _ ?side1 ?side2 A12.out).mono ?_); (case side1 => repeat (first | (with_reducible first | exact HI0.out | apply IsS60.alloc | apply IsS60.drewN | apply IsS60.drew | apply IsS60.set_1 | apply IsS60.set_2) | exact HI0.out)); (case side2 => repeat (first | (with_reducible first | exact HB.out | apply bA | apply bN | apply bD | refine bS ?_ (IsS60.ge HI0.out)) | exact HB.out)); rintro e w13 ⟨v493, rfl, ho0, hi, hb, hk⟩; refine ⟨_, rfl, ?_⟩; have HO494 := aM (Kd.R_lower ho0 (keep_size (w := (w.alloc (.cells #[.slice A0 l0.length c0, .int .i64 0, .int .u64 0] 60))) (g := w.heap.size) (row := none) HK.out)); replace HK := aM (KeepBut.trans HK.out hk (.inl rfl)); replace HB := aM (hb); replace HI0 := aM (hi); (try clear hb); (try clear ho0)))
    go_ret2
    exact ⟨_, rfl, Kd.R_lower HO494.out HL.out, by repeat (first | (with_reducible first | exact HB.out | apply bA | apply bN | apply bD | refine bS ?_ (IsS60.ge HI0.out)) | exact HB.out)⟩

/-! ### spec_l1Has: function 49 -/
def spec_l1Has.l0 : Nat → Int → List Int → Int → Int → Option (Bool)
 | 0, _, _, _, _ => none
 | k + 1, x1, x7, x8, x9 => if x9 < x8 then (if 0 ≤ x9 then (if x9 < (x7.length : Int) then (if (rd x7 x9) = x1 then (some true) else (spec_l1Has.l0 k x1 x7 x8 (wrap64 (x9 + 1)))) else (none)) else (none)) else (some false)
def spec_l1Has.f (k : Nat) (l0 : List Int) (a1 : Int) : Option (Bool) := spec_l1Has.l0 k a1 l0 (l0.length : Int) 0
theorem spec_l1Has.mono_l : ∀ k, (∀ y0 y1 y2 y3, LeO (spec_l1Has.l0 k y0 y1 y2 y3) (spec_l1Has.l0 (k + 1) y0 y1 y2 y3))
 | 0 => fun _ _ _ _ r h => by simp [spec_l1Has.l0] at h
 | k + 1 => by
  have ih0 := spec_l1Has.mono_l k
  ·intro y0 y1 y2 y3
   unfold spec_l1Has.l0
   with_reducible repeat' first | exact ih0 _ _ _ _ | exact LeO.refl _ | exact LeO.none _ | refine LeO.ite ?_ ?_ | refine LeO.bind ?_ (fun _ => ?_)
theorem spec_l1Has.mono : ∀ a0 a1 k, LeO (spec_l1Has.f k a0 a1) (spec_l1Has.f (k + 1) a0 a1) := by
 intro a0 a1 k
 have ih0 := spec_l1Has.mono_l k
 unfold spec_l1Has.f
 with_reducible repeat' first | exact ih0 _ _ _ _ | exact LeO.refl _ | exact LeO.none _ | refine LeO.ite ?_ ?_ | refine LeO.bind ?_ (fun _ => ?_)
set_option maxHeartbeats 8000000 in
set_option maxRecDepth 100000 in
theorem spec_l1Has.calls (k : Nat) (A0 : Option Addr) (c0 : Nat) (l0 : List Int) (a1 : Int) (r : Bool) (w : World) (hr0 : Kd.C (Kd.int .i64) w A0 l0.length l0) (hc0 : l0.length ≤ c0) (h : spec_l1Has.f k l0 a1 = some r) :
  Calls Tryd.prog 49 #[.slice A0 l0.length c0, .int .i64 a1] w fun e w' => e = .returned (.bool r) ∧ Drawn0 w w' := by
 have HR0 := aM hr0
 have HC0 := aM hc0
 clear hr0 hc0
 have H := h; clear h; unfold spec_l1Has.f at H
 have H' := aM H
 clear H
 go_enter Tryd.func49, Tryd.ntmps49
 go_wp2
 go_loopg [9] k (fun kq v9 w' => ∃ (x9_1 : Int), v9 = .int .i64 x9_1 ∧ Aside0 (spec_l1Has.l0 kq a1 l0 (l0.length : Int) x9_1 = some r) ∧ Aside0 (kq ≤ k) ∧ Drawn0 w w')
 case atStart => exact ⟨(0), rfl, H', ⟨Nat.le_refl _⟩, by repeat (first | exact Drawn0.refl _ | apply Drawn0.step)⟩
 case round =>
  clear H'
  obtain ⟨x9_1, rfl, HA, HK1, ⟨m1, rfl⟩⟩ := hrel
  cases gk with
  | zero => exact absurd HA.out (by simp [spec_l1Has.l0])
  | succ k1 =>
   have H := HA.out
   clear HA
   simp only [spec_l1Has.l0] at H
   replace H := iO H; obtain ⟨c3, H⟩ | ⟨c3, H⟩ := H
   ·have c3b0 := decide_eq_true c3
    clear c3
    replace H := iC H; obtain ⟨c4, H⟩ := H
    have c4b0 := decide_eq_true c4
    clear c4
    replace H := iC H; obtain ⟨c5, H⟩ := H
    have c5b0 := decide_eq_true c5
    clear c5
    replace H := iO H; obtain ⟨c6, H⟩ | ⟨c6, H⟩ := H
    ·have c6b0 : ((rd l0 x9_1) == a1) = true := beq_iff_eq.mpr c6
     have c6b1 : ((rd l0 x9_1) != a1) = false := bne_eq_false_iff_eq.mpr c6
     clear c6
     obtain rfl := Option.some.inj H
     obtain ⟨ad479, e479, hx479_0, p479, q479⟩ := aZ (Kd.at_int HR0.out x9_1); cases e479
     go_wp2
     go_ret
     exact ⟨rfl, by repeat (first | exact Drawn0.refl _ | apply Drawn0.step)⟩
    ·have c6b0 : ((rd l0 x9_1) == a1) = false := beq_eq_false_iff_ne.mpr c6
     have c6b1 : ((rd l0 x9_1) != a1) = true := bne_iff_ne.mpr c6
     have H' := aM H
     clear H; obtain ⟨ad479, e479, hx479_0, p479, q479⟩ := aZ (Kd.at_int HR0.out x9_1); cases e479
     go_wp2
     go_roundg k1
     case measure => have := HK1.out; omega
     case rel => exact ⟨(wrap64 (x9_1 + 1)), rfl, H', ⟨by have := HK1.out; omega⟩, by repeat (first | exact Drawn0.refl _ | apply Drawn0.step)⟩
   ·have c3b0 := decide_eq_false c3
    clear c3
    obtain rfl := Option.some.inj H
    go_wp2
    go_ret
    exact ⟨rfl, by repeat (first | exact Drawn0.refl _ | apply Drawn0.step)⟩

end Go.Proofs.YtppbohghongfmaaDoor.PN
