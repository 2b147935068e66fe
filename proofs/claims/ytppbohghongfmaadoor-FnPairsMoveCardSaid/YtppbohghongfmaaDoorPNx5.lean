-- written by a program of this session's (wip/tools), over the kit's print
import Derived.Test.YtppbohghongfmaaDoorPNx0
import Derived.Test.YtppbohghongfmaaDoorPNx4
-- squeezed
-- squeezed twice
namespace Go.Proofs.YtppbohghongfmaaDoor.PN
open Go.RowKit Go.Proofs.YtppbohghongfmaaDoorW.PrintWords Go.Proofs.YtppbohghongfmaaDoorW.PrintLast Go.Proofs.YtppbohghongfmaaDoorW.PrintMore
attribute [local go_sem] max2_int min2_int max_two min_two max_three min_three max_four min_four   -- for this text's walks alone
set_option linter.unusedVariables false
set_option linter.unusedSimpArgs false

/-! ### spec_riCan: function 71 -/
def spec_riCan.f (k : Nat) (a0 : ByteArray) (a1 : Int) : Option (Bool) := if a1 = 0 then (some true) else ((spec_l1In.f a1 1 (wrap64 ((a0.size : Int) - 1))).bind fun t278 => (if t278 = true then (if 0 ≤ (wrap64 (a1 - 1)) then (if (wrap64 (a1 - 1)) < (a0.size : Int) then (if (bt a0 (wrap64 (a1 - 1))) = 49 then (if (wrap64 (a1 - 1)) ≤ (a0.size : Int) then ((spec_riOn.f k (a0.extract 0 ((wrap64 (a1 - 1)) : Int).toNat)).bind fun t279 => (some (t279 == 0))) else (none)) else (some false)) else (none)) else (none)) else (some false)))
theorem spec_riCan.mono : ∀ a0 a1 k, LeO (spec_riCan.f k a0 a1) (spec_riCan.f (k + 1) a0 a1) := by
 intro a0 a1 k
 unfold spec_riCan.f
 with_reducible repeat' first | exact spec_riOn.mono _ _ | exact LeO.refl _ | exact LeO.none _ | refine LeO.ite ?_ ?_ | refine LeO.bind ?_ (fun _ => ?_)
set_option maxHeartbeats 8000000 in
set_option maxRecDepth 100000 in
theorem spec_riCan.calls (k : Nat) (a0 : ByteArray) (a1 : Int) (r : Bool) (w : World) (h : spec_riCan.f k a0 a1 = some r) :
  Calls Tryd.prog 71 #[.string a0, .int .i64 a1] w fun e w' => e = .returned (.bool r) ∧ Drawn0 w w' := by
 have H := h; clear h; unfold spec_riCan.f at H
 replace H := iO H; obtain ⟨c3, H⟩ | ⟨c3, H⟩ := H
 ·have c3b0 : (a1 == 0) = true := beq_iff_eq.mpr c3
  have c3b1 : (a1 != 0) = false := bne_eq_false_iff_eq.mpr c3
  clear c3
  obtain rfl := Option.some.inj H
  go_enter Tryd.func71, Tryd.ntmps71
  go_wp2
  go_ret
  exact ⟨rfl, by repeat (first | exact Drawn0.refl _ | apply Drawn0.step)⟩
 ·have c3b0 : (a1 == 0) = false := beq_eq_false_iff_ne.mpr c3
  have c3b1 : (a1 != 0) = true := bne_iff_ne.mpr c3
  replace H := jS H; obtain ⟨t278, A4, H⟩ := H
  by_cases c5 : t278 = true
  ·subst c5
   replace H := jT H
   obtain ⟨ji6, hji6⟩ : ∃ j_ : Int, (wrap64 (a1 - 1)) = j_ := ⟨_, rfl⟩
   replace H : (if 0 ≤ (ji6) then (if (ji6) < (a0.size : Int) then (if (bt a0 (ji6)) = 49 then (if (ji6) ≤ (a0.size : Int) then ((spec_riOn.f k (a0.extract 0 ((ji6) : Int).toNat)).bind fun t279 => (some (t279 == 0))) else (none)) else (some false)) else (none)) else (none)) = some r := by first | (rw [hji6] at H; exact H) | (simp only [hji6] at H ⊢; exact H)
   (try rw [hji6] at A4)
   have hji6w : (IntKind.i64.wrap (a1 - 1)) = ji6 := (i64_w _).trans hji6
   replace H := iC H; obtain ⟨c7, H⟩ := H
   have c7b0 := decide_eq_true c7
   clear c7
   replace H := iC H; obtain ⟨c8, H⟩ := H
   have c8b0 := decide_eq_true c8
   clear c8
   replace H := iO H; obtain ⟨c10, H⟩ | ⟨c10, H⟩ := H
   ·have c10b0 : ((bt a0 (ji6)) == 49) = true := beq_iff_eq.mpr c10
    have c10b1 : ((bt a0 (ji6)) != 49) = false := bne_eq_false_iff_eq.mpr c10
    clear c10
    have c11b0 := eq_true (oD : 0 ≤ (ji6))
    replace H := iT H; obtain ⟨c12b0, c12b1, H⟩ := H
    replace H := jS H; obtain ⟨t279, A13, H⟩ := H
    obtain rfl := Option.some.inj H
    go_enter Tryd.func71, Tryd.ntmps71
    go_wp2_with (first | ((with_reducible refine gC 67 rfl ?_); refine gL (some 11) Tryd.func67 #[.int .i64 a1, .int .i64 1, .int .i64 (wrap64 ((a0.size : Int) - 1))] ?_; (with_reducible refine (spec_l1In.calls a1 1 (wrap64 ((a0.size : Int) - 1)) true _ A4.out).mono ?_); rintro e w' ⟨rfl, ⟨nd, rfl⟩⟩; refine ⟨_, rfl, ?_⟩; have p9 : 0 ≤ ((ji6) : Int) := oD; have q9 : (ji6) < (a0.size : Int) := oD; have hx9 := bt_at a0 (ji6); replace p9 := eq_true p9; replace q9 := eq_true q9) | ((with_reducible refine gate_callee (f := 80) rfl ?_); refine goesL_ (some 24) rfl rfl Tryd.func80 (by kernel_rfl) rfl #[.string (a0.extract 0 ((ji6) : Int).toNat)] rfl (by (try simp only [List.map_toArray, List.map_cons, List.map_nil]); first | done | (simp only [hji6]; rfl) | rfl | (simp only [List.length_drop, List.length_take]; rfl)) ?_; (with_reducible refine (spec_riOn.calls k (a0.extract 0 ((ji6) : Int).toNat) t279 _ A13.out).mono ?_); rintro e w' ⟨rfl, ⟨nd, rfl⟩⟩; refine ⟨_, rfl, ?_⟩))
    go_ret
    exact ⟨by first | rfl | (simp; done) | (simp only [← hji6] <;> (first | rfl | simp)) | (simp [*]; done), by repeat (first | exact Drawn0.refl _ | apply Drawn0.step)⟩
   ·have c10b0 : ((bt a0 (ji6)) == 49) = false := beq_eq_false_iff_ne.mpr c10
    have c10b1 : ((bt a0 (ji6)) != 49) = true := bne_iff_ne.mpr c10
    obtain rfl := Option.some.inj H
    go_enter Tryd.func71, Tryd.ntmps71
    go_wp2_with (first | ((with_reducible refine gC 67 rfl ?_); refine gL (some 11) Tryd.func67 #[.int .i64 a1, .int .i64 1, .int .i64 (wrap64 ((a0.size : Int) - 1))] ?_; (with_reducible refine (spec_l1In.calls a1 1 (wrap64 ((a0.size : Int) - 1)) true _ A4.out).mono ?_); rintro e w' ⟨rfl, ⟨nd, rfl⟩⟩; refine ⟨_, rfl, ?_⟩; have p9 : 0 ≤ ((ji6) : Int) := oD; have q9 : (ji6) < (a0.size : Int) := oD; have hx9 := bt_at a0 (ji6); replace p9 := eq_true p9; replace q9 := eq_true q9))
    go_ret
    exact ⟨by first | rfl | (simp; done) | (simp only [← hji6] <;> (first | rfl | simp)) | (simp [*]; done), by repeat (first | exact Drawn0.refl _ | apply Drawn0.step)⟩
  ·replace c5 := Bool.eq_false_iff.mpr c5
   subst c5
   replace H := jF H
   obtain rfl := Option.some.inj H
   go_enter Tryd.func71, Tryd.ntmps71
   go_wp2_with (first | ((with_reducible refine gC 67 rfl ?_); refine gL (some 11) Tryd.func67 #[.int .i64 a1, .int .i64 1, .int .i64 (wrap64 ((a0.size : Int) - 1))] ?_; (with_reducible refine (spec_l1In.calls a1 1 (wrap64 ((a0.size : Int) - 1)) false _ A4.out).mono ?_); rintro e w' ⟨rfl, ⟨nd, rfl⟩⟩; refine ⟨_, rfl, ?_⟩))
   go_ret
   exact ⟨rfl, by repeat (first | exact Drawn0.refl _ | apply Drawn0.step)⟩

/-! ### spec_riMoves: function 65 (told by hand) -/
/-- spec.riMoves ranges over a string; at strings of ASCII bytes. -/
def spec_riMoves.l0 : Nat → ByteArray → List Int → Nat → Option (List Int)
 | 0, _, _, _ => none
 | k + 1, s, x, i => if i < s.size then (if (s.data.toList.getD i 0).toNat < 128 then ((spec_riCan.f k s (i : Int)).bind fun b => if b = true then (if x.length < 17592186044416 then spec_riMoves.l0 k s (x ++ [(i : Int)]) (i + 1) else none) else spec_riMoves.l0 k s x (i + 1)) else none) else some x
def spec_riMoves.f (k : Nat) (a0 : ByteArray) : Option (List Int) := if a0.size ≤ 4611686018427387904 then spec_riMoves.l0 k a0 [] 0 else none
theorem spec_riMoves.mono_l : ∀ k, (∀ y0 y1 y2, LeO (spec_riMoves.l0 k y0 y1 y2) (spec_riMoves.l0 (k + 1) y0 y1 y2))
 | 0 => fun _ _ _ r h => by simp [spec_riMoves.l0] at h
 | k + 1 => by
  have ih0 := spec_riMoves.mono_l k
  intro y0 y1 y2
  unfold spec_riMoves.l0
  with_reducible repeat' first | exact ih0 _ _ _ | exact spec_riCan.mono _ _ _ | exact LeO.refl _ | exact LeO.none _ | refine LeO.ite ?_ ?_ | refine LeO.bind ?_ (fun _ => ?_)
theorem spec_riMoves.mono : ∀ a0 k, LeO (spec_riMoves.f k a0) (spec_riMoves.f (k + 1) a0) := by
 intro a0 k
 unfold spec_riMoves.f
 exact LeO.ite (spec_riMoves.mono_l k _ _ _) (LeO.refl _)
set_option maxHeartbeats 8000000 in
set_option maxRecDepth 100000 in
theorem spec_riMoves.calls (k : Nat) (a0 : ByteArray) (r : List Int) (w : World) (h : spec_riMoves.f k a0 = some r) :
  Calls Tryd.prog 65 #[.string a0] w fun e w' => ∃ v0_ : Value, e = .returned (v0_) ∧ Kd.R (Kd.int .i64) 3 w' w.heap.size (fun _ => True) v0_ r ∧ Below w.heap.size w w' := by
 unfold spec_riMoves.f at h
 by_cases c0 : ¬ (a0.size ≤ 4611686018427387904)
 ·rw [if_neg c0] at h; exact absurd h (by simp)
 replace c0 := Decidable.not_not.mp c0
 rw [if_pos c0] at h
 have H' := aM h
 clear h
 have C0 := aM c0
 clear c0
 have hb0 := aM (show Below w.heap.size w (w.iter a0 0) from (Below.refl _ w).alloc (Nat.le_refl _) _)
 have hi0 := aM (World.iter_heap w a0 0)
 go_enter Tryd.func65, Tryd.ntmps65
 go_wp2
 go_loopg [3] k (fun kq v3 w' => ∃ (x3 : List Int) (i : Nat), Aside0 (spec_riMoves.l0 kq a0 x3 i = some r) ∧ Aside0 (kq ≤ k) ∧ Aside0 (w'.heap[w.heap.size]? = some (.stringIter a0 i)) ∧ Aside0 (Kd.R (Kd.int .i64) 3 w' (w.heap.size + 1) (fun _ => True) v3 x3) ∧ Aside0 (Below w.heap.size w w'))
 case atStart => exact ⟨[], 0, H', ⟨Nat.le_refl _⟩, hi0, ⟨Kd.R_nil _ _ _ _ _⟩, hb0⟩
 case round =>
  clear H' hb0 hi0
  obtain ⟨x3, i, HA, HK1, HI, HO, HB⟩ := hrel
  rename World => wr
  cases gk with
  | zero => exact absurd HA.out (by simp [spec_riMoves.l0])
  | succ k1 =>
   have H := HA.out
   clear HA
   simp only [spec_riMoves.l0] at H
   replace H := iO H; obtain ⟨c1, H⟩ | ⟨c1, H⟩ := H
   ·replace H := iC H; obtain ⟨c2, H⟩ := H
    have h128 : (a0[i]'c1).toNat < 128 := by
     have e : a0.data.toList.getD i 0 = a0[i]'c1 := by
      have hl : i < a0.data.toList.length := by rw [Array.length_toList]; exact c1
      simp [List.getD, List.getElem?_eq_getElem hl]
      rfl
     rw [← e]; exact c2
    have hnext : ∀ ty, (Instr.next (.pointer (some ⟨w.heap.size, 0, none⟩)) true ty).run Tryd.prog wr = _ := fun ty => Lib.run_next_ascii_at wr w.heap.size a0 i ty HI.out c1 h128
    have hk1 := Lib.iterAt_heap wr w.heap.size a0 i (i + 1) HI.out
    have hnx1 : Below w.heap.size w (wr.iterAt w.heap.size a0 (i + 1)) := Lib.below_iterAt HB.out (Nat.le_refl _) a0 (i + 1)
    have ho1 : Kd.R (Kd.int .i64) 3 (wr.iterAt w.heap.size a0 (i + 1)) (w.heap.size + 1) (fun _ => True) u3 x3 :=
     Kd.R_mono (Kd.R_move (Kd.R_bound HO.out) (fun k hk => Lib.iterAt_other wr w.heap.size k a0 (i + 1) (by have := hk.2.1; omega))) (fun _ _ => trivial)
    have hsz : w.heap.size + 1 ≤ (wr.iterAt w.heap.size a0 (i + 1)).heap.size := by
     have := (Array.getElem?_eq_some_iff.1 hk1).1
     omega
    generalize wr.iterAt w.heap.size a0 (i + 1) = W1 at hnext hk1 hnx1 ho1 hsz
    clear HI HO HB
    have HI := aM hk1
    have HB := aM hnx1
    have HO := aM ho1
    have HS := aM hsz
    clear hk1 hnx1 ho1 hsz
    obtain ⟨b, A1, H⟩ := Option.bind_eq_some_iff.mp H
    replace A1 := aM A1
    cases b with
    | true =>
     rw [if_pos rfl] at H
     replace H := iC H; obtain ⟨c3, H⟩ := H
     have LM := aM c3
     clear c3
     have H' := aM H
     clear H
     go_wp2_with (first | (go_at_call 71; (with_reducible refine (spec_riCan.calls k1 a0 (i : Int) true _ A1.out).mono ?_); rintro e w2 ⟨rfl, ⟨nd, rfl⟩⟩) | ((with_reducible refine gate_builtin (b := .append) (xs := #[.tmp 13, .tmp 15]) rfl ?_); at_builtin; refine Kd.R_append (Kd.int .i64) (w0 := W1) (w.heap.size + 1) rfl (.tmp 13) (.tmp 15) 26 3 (.int .i64 0) 8 rfl Tryd.underlying26 info3 rfl (by decide) (by omega) u3 x3 (i : Int) [.int .i64 (i : Int)] (fun _ => True) (fun _ => False) rfl rfl ?aP (fun _ hk => hk.elim) ?aF ?aO ?aB ?aS ?aL ?_; (case aP => exact rfl); (case aB => exact (by repeat (first | exact Below.refl _ _ | apply below_alloc' | apply pw_below_drewN | apply below_drew1))); (case aF => exact (fun _ _ => trivial)); (case aO => exact HO.out); (case aS => exact HS.out); (case aL => have := LM.out; omega); intro v20 w4 ho hb hg hat; have n1_ := aM (hb); have n2_ := aM (ho); clear HO; have HB2 := n1_; have HO := n2_; clear n1_ n2_; clear ho hb hg hat))
     have HI2 : Aside0 (w4.heap[w.heap.size]? = some (.stringIter a0 (i + 1))) := ⟨(HB2.out.block _ (Nat.lt_succ_self _)).trans HI.out⟩
     have HB3 : Aside0 (Below w.heap.size w w4) := ⟨HB.out.trans (HB2.out.mono (Nat.le_succ _))⟩
     go_roundg k1
     case measure => have := HK1.out; omega
     case rel => exact ⟨x3 ++ [(i : Int)], i + 1, H', ⟨by have := HK1.out; omega⟩, HI2, HO, HB3⟩
    | false =>
     rw [if_neg (by simp)] at H
     have H' := aM H
     clear H
     go_wp2_with (first | (go_at_call 71; (with_reducible refine (spec_riCan.calls k1 a0 (i : Int) false _ A1.out).mono ?_); rintro e w2 ⟨rfl, ⟨nd, rfl⟩⟩))
     go_roundg k1
     case measure => have := HK1.out; omega
     case rel => exact ⟨x3, i + 1, H', ⟨by have := HK1.out; omega⟩, HI, ⟨rQ HO.out⟩, ⟨bQ⟩⟩
   ·have hnext : ∀ ty, (Instr.next (.pointer (some ⟨w.heap.size, 0, none⟩)) true ty).run Tryd.prog wr = _ := fun ty => Lib.run_next_end_at wr w.heap.size a0 i ty HI.out c1
    obtain rfl := Option.some.inj H
    clear H
    go_wp2
    go_ret
    exact ⟨_, rfl, Kd.R_lower HO.out (by omega), HB.out⟩

/-! ### spec_twMoves: function 50 -/
def spec_twMoves.f (k : Nat) (a0 : ByteArray) : Option (List Int) := if 0 < (a0.size : Int) then (if 1 < (a0.size : Int) then (if (bt a0 0) = (bt a0 1) then (if ([] : List Int).length < 17592186044416 then ((some (([] : List Int) ++ [(-1)] : List Int)).bind fun y280 => ((spec_riMoves.f k a0).bind fun t283 => (if y280.length + t283.length < 17592186044416 then (some (y280 ++ t283)) else (none)))) else (none)) else ((spec_riMoves.f k a0).bind fun t289 => (if ([] : List Int).length + t289.length < 17592186044416 then (some (([] : List Int) ++ t289)) else (none)))) else (none)) else (none)
theorem spec_twMoves.mono : ∀ a0 k, LeO (spec_twMoves.f k a0) (spec_twMoves.f (k + 1) a0) := by
 intro a0 k
 unfold spec_twMoves.f
 with_reducible repeat' first | exact spec_riMoves.mono _ _ | exact LeO.refl _ | exact LeO.none _ | refine LeO.ite ?_ ?_ | refine LeO.bind ?_ (fun _ => ?_)
set_option maxHeartbeats 8000000 in
set_option maxRecDepth 100000 in
theorem spec_twMoves.calls (k : Nat) (a0 : ByteArray) (r : List Int) (w : World) (h : spec_twMoves.f k a0 = some r) :
  Calls Tryd.prog 50 #[.string a0] w fun e w' => ∃ v0_ : Value, e = .returned (v0_) ∧ Kd.R (Kd.int .i64) 3 w' w.heap.size (fun _ => True) v0_ r ∧ Below w.heap.size w w' := by
 have HB := aM (Below.refl w.heap.size w)
 have H := h; clear h; unfold spec_twMoves.f at H
 replace H := iC H; obtain ⟨c2, H⟩ := H
 have c2b0 := decide_eq_true c2
 have c2b1 : decide (0 < a0.size) = true := decide_eq_true (by omega)
 clear c2
 replace H := iC H; obtain ⟨c4, H⟩ := H
 have c4b0 := decide_eq_true c4
 have c4b1 : decide (1 < a0.size) = true := decide_eq_true (by omega)
 clear c4
 replace H := iO H; obtain ⟨c6, H⟩ | ⟨c6, H⟩ := H
 ·have c6b0 : ((bt a0 0) == (bt a0 1)) = true := beq_iff_eq.mpr c6
  have c6b1 : ((bt a0 0) != (bt a0 1)) = false := bne_eq_false_iff_eq.mpr c6
  clear c6
  replace H := iC H; obtain ⟨c7, H⟩ := H
  have LMc7 := aM c7
  clear c7
  replace H := jY H; obtain ⟨y280, Ny280, H⟩ := H
  replace H := jS H; obtain ⟨t283, A8, H⟩ := H
  replace H := iC H; obtain ⟨c9, H⟩ := H
  have LMc9 := aM c9
  clear c9
  obtain ⟨y286, Ny286, h_⟩ := yG (α := List Int) (y280 ++ t283); rw [← h_] at H; clear h_
  obtain rfl := Option.some.inj H
  have p3 : 0 ≤ (0 : Int) := (by omega)
  have q3 : 0 < a0.size := (by have : (0 : Int) < (a0.size : Int) := oD; omega)
  have hx3 : ∀ h : 0 < a0.size, ((a0[0]'h).toNat : Int) = bt a0 0 := bt_at a0 0
  clear p3
  have qi3 : (0 < (a0.size : Int)) = True := eq_true (oD)
  replace q3 := eq_true q3
  have p5 : 0 ≤ (1 : Int) := (by omega)
  have q5 : 1 < a0.size := (by have : (1 : Int) < (a0.size : Int) := oD; omega)
  have hx5 : ∀ h : 1 < a0.size, ((a0[1]'h).toNat : Int) = bt a0 1 := bt_at a0 1
  clear p5
  have qi5 : (1 < (a0.size : Int)) = True := eq_true (oD)
  replace q5 := eq_true q5
  go_enter Tryd.func50, Tryd.ntmps50
  go_wp2_with (first | ((with_reducible refine gate_builtin (b := .append) (xs := #[.tmp 9, .tmp 10]) rfl ?_); at_builtin; refine Kd.R_append (Kd.int .i64) (w0 := w) w.heap.size rfl (.tmp 9) (.tmp 10) 26 3 (.int .i64 0) 8 rfl Tryd.underlying26 info3 rfl (by decide) (by omega) (.slice none 0 0) ([] : List Int) (-1) [.int .i64 (-1)] (fun _ => True) (fun _ => False) rfl rfl ?aP (fun _ hk => hk.elim) ?aF ?aO ?aB ?aS ?aL ?_; (case aP => exact rfl); (case aB => exact HB.out); (case aF => exact (fun _ _ => trivial)); (case aO => exact ((Kd.R_nil _ _ _ _ (fun _ => True)))); (case aS => exact (below_size HB.out)); (case aL => have := LMc7.out; omega); intro v281 w10 ho hb hg hat; rw [← Ny280.out] at ho; replace HB := aM (hb); have HO282 := aM (ho); clear ho hb hg hat) | (go_at_call 65; (with_reducible refine (spec_riMoves.calls k a0 t283 _ A8.out).mono ?_); rintro e w11 ⟨v284, rfl, ho0, hb⟩; have HO285 := aM (Kd.R_lower (Kd.R_new' ho0 (Kd.R_lt HO282.out)) (below_size HB.out)); replace HO282 := aM (Kd.R_elder' HO282.out (Kd.R_base ho0) hb); replace HB := aM (below_step HB.out hb); (try clear hb); (try clear ho0); obtain ⟨Ao13, co13, eo13⟩ := Kd.R_slice HO285.out; subst eo13) | ((with_reducible refine gate_builtin (b := .append) (xs := #[.tmp 12, .tmp 14]) rfl ?_); at_builtin; refine Kd.R_append_rows (Kd.int .i64) (w0 := w) w.heap.size rfl (.tmp 12) (.tmp 14) 26 3 (.int .i64 0) 8 rfl Tryd.underlying26 info3 rfl (by decide) (by omega) v281 y280 t283 _ _ _ (fun k_ => some k_ ≠ (.slice Ao13 t283.length co13 : Value).ownBlock) (fun _ => False) rfl rfl ?aO ?aR (fun _ _ h => h) (fun _ h => h.elim) ?aF ?aB ?aS ?aL ?_; (case aR => repeat (first | exact (Kd.R_reads' HO285.out).2.2 | (with_reducible refine cA ?_ _) | (with_reducible refine cN ?_ _) | (with_reducible refine cD ?_))); (case aB => exact HB.out); (case aF => exact (fun k_ hk => Kd.fresh' (Kd.R_lt HO285.out) k_ hk)); (case aO => exact (Kd.R_mono HO282.out (fun _ hk => hk.2))); (case aS => exact (below_size HB.out)); (case aL => have := LMc9.out; omega); intro v287 w12 ho hb hg hat; rw [← Ny286.out] at ho; replace HO285 := aM (Kd.R_after (ok := (fun _ => True)) HO285.out hg hat); replace HB := aM (hb); have HO288 := aM (ho); clear ho hb hg hat))
  repeat (go_quiet (first | ((with_reducible refine gate_builtin (b := .append) (xs := #[.tmp 9, .tmp 10]) rfl ?_); at_builtin; refine Kd.R_append (Kd.int .i64) (w0 := w) w.heap.size rfl (.tmp 9) (.tmp 10) 26 3 (.int .i64 0) 8 rfl Tryd.underlying26 info3 rfl (by decide) (by omega) (.slice none 0 0) ([] : List Int) (-1) [.int .i64 (-1)] (fun _ => True) (fun _ => False) rfl rfl ?aP (fun _ hk => hk.elim) ?aF ?aO ?aB ?aS ?aL ?_; (case aP => exact rfl); (case aB => exact bQ); (case aF => exact (fun _ _ => trivial)); (case aO => exact ((Kd.R_nil _ _ _ _ (fun _ => True)))); (case aS => exact (below_size bQ)); (case aL => have := LMc7.out; omega); intro v281 w10 ho hb hg hat; rw [← Ny280.out] at ho; replace HB := aM (hb); have HO282 := aM (ho); clear ho hb hg hat) | (go_at_call 65; (with_reducible refine (spec_riMoves.calls k a0 t283 _ A8.out).mono ?_); rintro e w11 ⟨v284, rfl, ho0, hb⟩; have HO285 := aM (Kd.R_lower (Kd.R_new' ho0 (Kd.R_lt (rQ HO282.out))) (below_size bQ)); replace HO282 := aM (Kd.R_elder' (rQ HO282.out) (Kd.R_base ho0) hb); replace HB := aM (below_step bQ hb); (try clear hb); (try clear ho0); obtain ⟨Ao13, co13, eo13⟩ := Kd.R_slice HO285.out; subst eo13) | ((with_reducible refine gate_builtin (b := .append) (xs := #[.tmp 12, .tmp 14]) rfl ?_); at_builtin; refine Kd.R_append_rows (Kd.int .i64) (w0 := w) w.heap.size rfl (.tmp 12) (.tmp 14) 26 3 (.int .i64 0) 8 rfl Tryd.underlying26 info3 rfl (by decide) (by omega) v281 y280 t283 _ _ _ (fun k_ => some k_ ≠ (.slice Ao13 t283.length co13 : Value).ownBlock) (fun _ => False) rfl rfl ?aO ?aR (fun _ _ h => h) (fun _ h => h.elim) ?aF ?aB ?aS ?aL ?_; (case aR => repeat (first | exact (Kd.R_reads' HO285.out).2.2 | (with_reducible refine cA ?_ _) | (with_reducible refine cN ?_ _) | (with_reducible refine cD ?_))); (case aB => exact bQ); (case aF => exact (fun k_ hk => Kd.fresh' (Kd.R_lt (rQ HO285.out)) k_ hk)); (case aO => exact (by (with_reducible repeat (first | apply rA | apply rN | apply rD)); exact Kd.R_mono HO282.out (fun _ hk => hk.2))); (case aS => exact (below_size bQ)); (case aL => have := LMc9.out; omega); intro v287 w12 ho hb hg hat; rw [← Ny286.out] at ho; replace HO285 := aM (Kd.R_after (ok := (fun _ => True)) (rQ HO285.out) hg hat); replace HB := aM (hb); have HO288 := aM (ho); clear ho hb hg hat)); try go_wp2_with (first | ((with_reducible refine gate_builtin (b := .append) (xs := #[.tmp 9, .tmp 10]) rfl ?_); at_builtin; refine Kd.R_append (Kd.int .i64) (w0 := w) w.heap.size rfl (.tmp 9) (.tmp 10) 26 3 (.int .i64 0) 8 rfl Tryd.underlying26 info3 rfl (by decide) (by omega) (.slice none 0 0) ([] : List Int) (-1) [.int .i64 (-1)] (fun _ => True) (fun _ => False) rfl rfl ?aP (fun _ hk => hk.elim) ?aF ?aO ?aB ?aS ?aL ?_; (case aP => exact rfl); (case aB => exact bQ); (case aF => exact (fun _ _ => trivial)); (case aO => exact ((Kd.R_nil _ _ _ _ (fun _ => True)))); (case aS => exact (below_size bQ)); (case aL => have := LMc7.out; omega); intro v281 w10 ho hb hg hat; rw [← Ny280.out] at ho; replace HB := aM (hb); have HO282 := aM (ho); clear ho hb hg hat) | (go_at_call 65; (with_reducible refine (spec_riMoves.calls k a0 t283 _ A8.out).mono ?_); rintro e w11 ⟨v284, rfl, ho0, hb⟩; have HO285 := aM (Kd.R_lower (Kd.R_new' ho0 (Kd.R_lt (rQ HO282.out))) (below_size bQ)); replace HO282 := aM (Kd.R_elder' (rQ HO282.out) (Kd.R_base ho0) hb); replace HB := aM (below_step bQ hb); (try clear hb); (try clear ho0); obtain ⟨Ao13, co13, eo13⟩ := Kd.R_slice HO285.out; subst eo13) | ((with_reducible refine gate_builtin (b := .append) (xs := #[.tmp 12, .tmp 14]) rfl ?_); at_builtin; refine Kd.R_append_rows (Kd.int .i64) (w0 := w) w.heap.size rfl (.tmp 12) (.tmp 14) 26 3 (.int .i64 0) 8 rfl Tryd.underlying26 info3 rfl (by decide) (by omega) v281 y280 t283 _ _ _ (fun k_ => some k_ ≠ (.slice Ao13 t283.length co13 : Value).ownBlock) (fun _ => False) rfl rfl ?aO ?aR (fun _ _ h => h) (fun _ h => h.elim) ?aF ?aB ?aS ?aL ?_; (case aR => repeat (first | exact (Kd.R_reads' HO285.out).2.2 | (with_reducible refine cA ?_ _) | (with_reducible refine cN ?_ _) | (with_reducible refine cD ?_))); (case aB => exact bQ); (case aF => exact (fun k_ hk => Kd.fresh' (Kd.R_lt (rQ HO285.out)) k_ hk)); (case aO => exact (by (with_reducible repeat (first | apply rA | apply rN | apply rD)); exact Kd.R_mono HO282.out (fun _ hk => hk.2))); (case aS => exact (below_size bQ)); (case aL => have := LMc9.out; omega); intro v287 w12 ho hb hg hat; rw [← Ny286.out] at ho; replace HO285 := aM (Kd.R_after (ok := (fun _ => True)) (rQ HO285.out) hg hat); replace HB := aM (hb); have HO288 := aM (ho); clear ho hb hg hat)))
  go_ret
  exact ⟨_, rfl, by (with_reducible repeat (first | apply rA | apply rN | apply rD)); exact Kd.R_mono HO288.out (fun _ hk => trivial), HB.out⟩
 ·have c6b0 : ((bt a0 0) == (bt a0 1)) = false := beq_eq_false_iff_ne.mpr c6
  have c6b1 : ((bt a0 0) != (bt a0 1)) = true := bne_iff_ne.mpr c6
  replace H := jS H; obtain ⟨t289, A14, H⟩ := H
  replace H := iC H; obtain ⟨c15, H⟩ := H
  have LMc15 := aM c15
  clear c15
  obtain ⟨y292, Ny292, h_⟩ := yG (α := List Int) (([] : List Int) ++ t289); rw [← h_] at H; clear h_
  obtain rfl := Option.some.inj H
  have p3 : 0 ≤ (0 : Int) := (by omega)
  have q3 : 0 < a0.size := (by have : (0 : Int) < (a0.size : Int) := oD; omega)
  have hx3 : ∀ h : 0 < a0.size, ((a0[0]'h).toNat : Int) = bt a0 0 := bt_at a0 0
  clear p3
  have qi3 : (0 < (a0.size : Int)) = True := eq_true (oD)
  replace q3 := eq_true q3
  have p5 : 0 ≤ (1 : Int) := (by omega)
  have q5 : 1 < a0.size := (by have : (1 : Int) < (a0.size : Int) := oD; omega)
  have hx5 : ∀ h : 1 < a0.size, ((a0[1]'h).toNat : Int) = bt a0 1 := bt_at a0 1
  clear p5
  have qi5 : (1 < (a0.size : Int)) = True := eq_true (oD)
  replace q5 := eq_true q5
  go_enter Tryd.func50, Tryd.ntmps50
  go_wp2_with (first | (go_at_call 65; (with_reducible refine (spec_riMoves.calls k a0 t289 _ A14.out).mono ?_); rintro e w16 ⟨v290, rfl, ho0, hb⟩; have HO291 := aM (Kd.R_lower ho0 (below_size HB.out)); replace HB := aM (below_step HB.out hb); (try clear hb); (try clear ho0); obtain ⟨Ao18, co18, eo18⟩ := Kd.R_slice HO291.out; subst eo18) | ((with_reducible refine gate_builtin (b := .append) (xs := #[.tmp 12, .tmp 14]) rfl ?_); at_builtin; refine Kd.R_append_rows (Kd.int .i64) (w0 := w) w.heap.size rfl (.tmp 12) (.tmp 14) 26 3 (.int .i64 0) 8 rfl Tryd.underlying26 info3 rfl (by decide) (by omega) (.slice none 0 0) ([] : List Int) t289 _ _ _ (fun k_ => some k_ ≠ (.slice Ao18 t289.length co18 : Value).ownBlock) (fun _ => False) rfl rfl ?aO ?aR (fun _ _ h => h) (fun _ h => h.elim) ?aF ?aB ?aS ?aL ?_; (case aR => repeat (first | exact (Kd.R_reads' HO291.out).2.2 | (with_reducible refine cA ?_ _) | (with_reducible refine cN ?_ _) | (with_reducible refine cD ?_))); (case aB => exact HB.out); (case aF => exact (fun k_ hk => Kd.fresh' (Kd.R_lt HO291.out) k_ hk)); (case aO => exact ((Kd.R_nil _ _ _ _ (fun k_ => some k_ ≠ (.slice Ao18 t289.length co18 : Value).ownBlock)))); (case aS => exact (below_size HB.out)); (case aL => have := LMc15.out; omega); intro v293 w17 ho hb hg hat; rw [← Ny292.out] at ho; replace HO291 := aM (Kd.R_after (Kd.R_apart_nil HO291.out) hg hat); replace HB := aM (hb); have HO294 := aM (ho); clear ho hb hg hat))
  repeat (go_quiet (first | (go_at_call 65; (with_reducible refine (spec_riMoves.calls k a0 t289 _ A14.out).mono ?_); rintro e w16 ⟨v290, rfl, ho0, hb⟩; have HO291 := aM (Kd.R_lower ho0 (below_size bQ)); replace HB := aM (below_step bQ hb); (try clear hb); (try clear ho0); obtain ⟨Ao18, co18, eo18⟩ := Kd.R_slice HO291.out; subst eo18) | ((with_reducible refine gate_builtin (b := .append) (xs := #[.tmp 12, .tmp 14]) rfl ?_); at_builtin; refine Kd.R_append_rows (Kd.int .i64) (w0 := w) w.heap.size rfl (.tmp 12) (.tmp 14) 26 3 (.int .i64 0) 8 rfl Tryd.underlying26 info3 rfl (by decide) (by omega) (.slice none 0 0) ([] : List Int) t289 _ _ _ (fun k_ => some k_ ≠ (.slice Ao18 t289.length co18 : Value).ownBlock) (fun _ => False) rfl rfl ?aO ?aR (fun _ _ h => h) (fun _ h => h.elim) ?aF ?aB ?aS ?aL ?_; (case aR => repeat (first | exact (Kd.R_reads' HO291.out).2.2 | (with_reducible refine cA ?_ _) | (with_reducible refine cN ?_ _) | (with_reducible refine cD ?_))); (case aB => exact bQ); (case aF => exact (fun k_ hk => Kd.fresh' (Kd.R_lt (rQ HO291.out)) k_ hk)); (case aO => exact ((Kd.R_nil _ _ _ _ (fun k_ => some k_ ≠ (.slice Ao18 t289.length co18 : Value).ownBlock)))); (case aS => exact (below_size bQ)); (case aL => have := LMc15.out; omega); intro v293 w17 ho hb hg hat; rw [← Ny292.out] at ho; replace HO291 := aM (Kd.R_after (Kd.R_apart_nil (rQ HO291.out)) hg hat); replace HB := aM (hb); have HO294 := aM (ho); clear ho hb hg hat)); try go_wp2_with (first | (go_at_call 65; (with_reducible refine (spec_riMoves.calls k a0 t289 _ A14.out).mono ?_); rintro e w16 ⟨v290, rfl, ho0, hb⟩; have HO291 := aM (Kd.R_lower ho0 (below_size bQ)); replace HB := aM (below_step bQ hb); (try clear hb); (try clear ho0); obtain ⟨Ao18, co18, eo18⟩ := Kd.R_slice HO291.out; subst eo18) | ((with_reducible refine gate_builtin (b := .append) (xs := #[.tmp 12, .tmp 14]) rfl ?_); at_builtin; refine Kd.R_append_rows (Kd.int .i64) (w0 := w) w.heap.size rfl (.tmp 12) (.tmp 14) 26 3 (.int .i64 0) 8 rfl Tryd.underlying26 info3 rfl (by decide) (by omega) (.slice none 0 0) ([] : List Int) t289 _ _ _ (fun k_ => some k_ ≠ (.slice Ao18 t289.length co18 : Value).ownBlock) (fun _ => False) rfl rfl ?aO ?aR (fun _ _ h => h) (fun _ h => h.elim) ?aF ?aB ?aS ?aL ?_; (case aR => repeat (first | exact (Kd.R_reads' HO291.out).2.2 | (with_reducible refine cA ?_ _) | (with_reducible refine cN ?_ _) | (with_reducible refine cD ?_))); (case aB => exact bQ); (case aF => exact (fun k_ hk => Kd.fresh' (Kd.R_lt (rQ HO291.out)) k_ hk)); (case aO => exact ((Kd.R_nil _ _ _ _ (fun k_ => some k_ ≠ (.slice Ao18 t289.length co18 : Value).ownBlock)))); (case aS => exact (below_size bQ)); (case aL => have := LMc15.out; omega); intro v293 w17 ho hb hg hat; rw [← Ny292.out] at ho; replace HO291 := aM (Kd.R_after (Kd.R_apart_nil (rQ HO291.out)) hg hat); replace HB := aM (hb); have HO294 := aM (ho); clear ho hb hg hat)))
  go_ret
  exact ⟨_, rfl, by (with_reducible repeat (first | apply rA | apply rN | apply rD)); exact Kd.R_mono HO294.out (fun _ hk => trivial), HB.out⟩
/-! ### spec_riMove: function 66 -/
def spec_riMove.f (a0 : ByteArray) (a1 : Int) : Option (ByteArray) := if 0 ≤ a1 then (if a1 < (a0.size : Int) then (if (bt a0 a1) = 49 then (if a1 ≤ (a0.size : Int) then (if (a0.extract 0 (a1 : Int).toNat).size + 1 ≤ 9223372036854775807 then (if 0 ≤ (wrap64 (a1 + 1)) then (if (wrap64 (a1 + 1)) ≤ (a0.size : Int) then (if ((a0.extract 0 (a1 : Int).toNat) ++ (⟨#[48]⟩ : ByteArray)).size + (a0.extract ((wrap64 (a1 + 1)) : Int).toNat a0.size).size ≤ 9223372036854775807 then (some (((a0.extract 0 (a1 : Int).toNat) ++ (⟨#[48]⟩ : ByteArray)) ++ (a0.extract ((wrap64 (a1 + 1)) : Int).toNat a0.size))) else (none)) else (none)) else (none)) else (none)) else (none)) else (if a1 ≤ (a0.size : Int) then (if (a0.extract 0 (a1 : Int).toNat).size + 1 ≤ 9223372036854775807 then (if 0 ≤ (wrap64 (a1 + 1)) then (if (wrap64 (a1 + 1)) ≤ (a0.size : Int) then (if ((a0.extract 0 (a1 : Int).toNat) ++ (⟨#[49]⟩ : ByteArray)).size + (a0.extract ((wrap64 (a1 + 1)) : Int).toNat a0.size).size ≤ 9223372036854775807 then (some (((a0.extract 0 (a1 : Int).toNat) ++ (⟨#[49]⟩ : ByteArray)) ++ (a0.extract ((wrap64 (a1 + 1)) : Int).toNat a0.size))) else (none)) else (none)) else (none)) else (none)) else (none))) else (none)) else (none)
set_option maxHeartbeats 8000000 in
set_option maxRecDepth 100000 in
theorem spec_riMove.calls (a0 : ByteArray) (a1 : Int) (r : ByteArray) (w : World) (h : spec_riMove.f a0 a1 = some r) :
  Calls Tryd.prog 66 #[.string a0, .int .i64 a1] w fun e w' => e = .returned (.string r) ∧ Drawn0 w w' := by
 have H := h; clear h; unfold spec_riMove.f at H
 replace H := iC H; obtain ⟨c3, H⟩ := H
 have c3b0 := decide_eq_true c3
 clear c3
 replace H := iC H; obtain ⟨c4, H⟩ := H
 have c4b0 := decide_eq_true c4
 clear c4
 replace H := iO H; obtain ⟨c6, H⟩ | ⟨c6, H⟩ := H
 ·have c6b0 : ((bt a0 a1) == 49) = true := beq_iff_eq.mpr c6
  have c6b1 : ((bt a0 a1) != 49) = false := bne_eq_false_iff_eq.mpr c6
  clear c6
  have c7b0 := eq_true (oD : 0 ≤ a1)
  replace H := iC H; obtain ⟨c8, H⟩ := H
  have c8b0 := eq_true c8
  have c8b1 := decide_eq_true c8
  clear c8
  replace H := iC H; obtain ⟨c9, H⟩ := H
  have c9b0 := eq_true c9
  have c9b1 := decide_eq_true c9
  try have c9b2 : (9223372036854775807 < (a0.extract 0 (a1 : Int).toNat).size + 1) = False := eq_false (Nat.not_lt.2 c9)
  have hmin_ : min a1.toNat a0.size = a1.toNat := Nat.min_eq_left (by have h1_ := of_eq_true c8b0; omega)
  have c9b3 : (9223372036854775807 < a1.toNat + 1) = False := eq_false (by have := c9; rw [ByteArray.size_extract, hmin_] at this; omega)
  obtain ⟨ji10, hji10⟩ : ∃ j_ : Int, (wrap64 (a1 + 1)) = j_ := ⟨_, rfl⟩
  replace H : (if 0 ≤ (ji10) then (if (ji10) ≤ (a0.size : Int) then (if ((a0.extract 0 (a1 : Int).toNat) ++ (⟨#[48]⟩ : ByteArray)).size + (a0.extract ((ji10) : Int).toNat a0.size).size ≤ 9223372036854775807 then (some (((a0.extract 0 (a1 : Int).toNat) ++ (⟨#[48]⟩ : ByteArray)) ++ (a0.extract ((ji10) : Int).toNat a0.size))) else (none)) else (none)) else (none)) = some r := by first | (rw [hji10] at H; exact H) | (simp only [hji10] at H ⊢; exact H)
  have hji10w : (IntKind.i64.wrap (a1 + 1)) = ji10 := (i64_w _).trans hji10
  replace H := iC H; obtain ⟨c11, H⟩ := H
  have c11b0 := eq_true c11
  have c11b1 := decide_eq_true c11
  clear c11
  replace H := iC H; obtain ⟨c12, H⟩ := H
  have c12b0 := eq_true c12
  have c12b1 := decide_eq_true c12
  clear c12
  replace H := iC H; obtain ⟨c13, H⟩ := H
  have c13b0 := eq_true c13
  have c13b1 := decide_eq_true c13
  try have c13b2 : (9223372036854775807 < ((a0.extract 0 (a1 : Int).toNat) ++ (⟨#[48]⟩ : ByteArray)).size + (a0.extract ((ji10) : Int).toNat a0.size).size) = False := eq_false (Nat.not_lt.2 c13)
  have c13b3 : (9223372036854775807 < a1.toNat + 1 + (a0.size - ji10.toNat)) = False := eq_false (by have := c13; simp only [ByteArray.size_append, ByteArray.size_extract, hmin_, Nat.min_self, Nat.sub_zero] at this; have e_ : ((⟨#[48]⟩ : ByteArray)).size = 1 := rfl; have e2_ : ((⟨#[49]⟩ : ByteArray)).size = 1 := rfl; omega)
  obtain rfl := Option.some.inj H
  have p5 : 0 ≤ (a1 : Int) := oD; have q5 : a1 < (a0.size : Int) := oD
  have hx5 := bt_at a0 a1
  replace p5 := eq_true p5; replace q5 := eq_true q5
  go_enter Tryd.func66, Tryd.ntmps66
  go_wp2
  repeat (go_quiet (fail); try go_wp2)
  go_ret
  exact ⟨by first | rfl | (simp; done) | (simp only [← hji10] <;> (first | rfl | simp)) | (simp [*]; done), by repeat (first | exact Drawn0.refl _ | apply Drawn0.step)⟩
 ·have c6b0 : ((bt a0 a1) == 49) = false := beq_eq_false_iff_ne.mpr c6
  have c6b1 : ((bt a0 a1) != 49) = true := bne_iff_ne.mpr c6
  have c14b0 := eq_true (oD : 0 ≤ a1)
  replace H := iC H; obtain ⟨c15, H⟩ := H
  have c15b0 := eq_true c15
  have c15b1 := decide_eq_true c15
  clear c15
  replace H := iC H; obtain ⟨c16, H⟩ := H
  have c16b0 := eq_true c16
  have c16b1 := decide_eq_true c16
  try have c16b2 : (9223372036854775807 < (a0.extract 0 (a1 : Int).toNat).size + 1) = False := eq_false (Nat.not_lt.2 c16)
  have hmin_ : min a1.toNat a0.size = a1.toNat := Nat.min_eq_left (by have h1_ := of_eq_true c15b0; omega)
  have c16b3 : (9223372036854775807 < a1.toNat + 1) = False := eq_false (by have := c16; rw [ByteArray.size_extract, hmin_] at this; omega)
  obtain ⟨ji17, hji17⟩ : ∃ j_ : Int, (wrap64 (a1 + 1)) = j_ := ⟨_, rfl⟩
  replace H : (if 0 ≤ (ji17) then (if (ji17) ≤ (a0.size : Int) then (if ((a0.extract 0 (a1 : Int).toNat) ++ (⟨#[49]⟩ : ByteArray)).size + (a0.extract ((ji17) : Int).toNat a0.size).size ≤ 9223372036854775807 then (some (((a0.extract 0 (a1 : Int).toNat) ++ (⟨#[49]⟩ : ByteArray)) ++ (a0.extract ((ji17) : Int).toNat a0.size))) else (none)) else (none)) else (none)) = some r := by first | (rw [hji17] at H; exact H) | (simp only [hji17] at H ⊢; exact H)
  have hji17w : (IntKind.i64.wrap (a1 + 1)) = ji17 := (i64_w _).trans hji17
  replace H := iC H; obtain ⟨c18, H⟩ := H
  have c18b0 := eq_true c18
  have c18b1 := decide_eq_true c18
  clear c18
  replace H := iC H; obtain ⟨c19, H⟩ := H
  have c19b0 := eq_true c19
  have c19b1 := decide_eq_true c19
  clear c19
  replace H := iC H; obtain ⟨c20, H⟩ := H
  have c20b0 := eq_true c20
  have c20b1 := decide_eq_true c20
  try have c20b2 : (9223372036854775807 < ((a0.extract 0 (a1 : Int).toNat) ++ (⟨#[49]⟩ : ByteArray)).size + (a0.extract ((ji17) : Int).toNat a0.size).size) = False := eq_false (Nat.not_lt.2 c20)
  have c20b3 : (9223372036854775807 < a1.toNat + 1 + (a0.size - ji17.toNat)) = False := eq_false (by have := c20; simp only [ByteArray.size_append, ByteArray.size_extract, hmin_, Nat.min_self, Nat.sub_zero] at this; have e_ : ((⟨#[48]⟩ : ByteArray)).size = 1 := rfl; have e2_ : ((⟨#[49]⟩ : ByteArray)).size = 1 := rfl; omega)
  obtain rfl := Option.some.inj H
  have p5 : 0 ≤ (a1 : Int) := oD; have q5 : a1 < (a0.size : Int) := oD
  have hx5 := bt_at a0 a1
  replace p5 := eq_true p5; replace q5 := eq_true q5
  go_enter Tryd.func66, Tryd.ntmps66
  go_wp2
  repeat (go_quiet (fail); try go_wp2)
  go_ret
  exact ⟨by first | rfl | (simp; done) | (simp only [← hji17] <;> (first | rfl | simp)) | (simp [*]; done), by repeat (first | exact Drawn0.refl _ | apply Drawn0.step)⟩
/-! ### spec_twMake: function 51 -/
def spec_twMake.f (a0 : ByteArray) (a1 : Int) : Option (ByteArray) := if a1 = (-1) then ((spec_riMove.f a0 0).bind fun t295 => ((spec_riMove.f t295 1).bind fun t296 => (some t296))) else ((spec_riMove.f a0 a1).bind fun t297 => (some t297))
set_option maxHeartbeats 8000000 in
set_option maxRecDepth 100000 in
theorem spec_twMake.calls (a0 : ByteArray) (a1 : Int) (r : ByteArray) (w : World) (h : spec_twMake.f a0 a1 = some r) :
  Calls Tryd.prog 51 #[.string a0, .int .i64 a1] w fun e w' => e = .returned (.string r) ∧ Drawn0 w w' := by
 have H := h; clear h; unfold spec_twMake.f at H
 replace H := iO H; obtain ⟨c3, H⟩ | ⟨c3, H⟩ := H
 ·have c3b0 : (a1 == (-1)) = true := beq_iff_eq.mpr c3
  have c3b1 : (a1 != (-1)) = false := bne_eq_false_iff_eq.mpr c3
  clear c3
  replace H := jS H; obtain ⟨t295, A4, H⟩ := H
  replace H := jS H; obtain ⟨t296, A5, H⟩ := H
  obtain rfl := Option.some.inj H
  go_enter Tryd.func51, Tryd.ntmps51
  go_wp2_with (first | ((with_reducible refine gC 66 rfl ?_); refine gL (some 8) Tryd.func66 #[.string a0, .int .i64 0] ?_; (with_reducible refine (spec_riMove.calls a0 0 t295 _ A4.out).mono ?_); rintro e w' ⟨rfl, ⟨nd, rfl⟩⟩; refine ⟨_, rfl, ?_⟩) | ((with_reducible refine gC 66 rfl ?_); refine gL (some 9) Tryd.func66 #[.string t295, .int .i64 1] ?_; (with_reducible refine (spec_riMove.calls t295 1 t296 _ A5.out).mono ?_); rintro e w' ⟨rfl, ⟨nd, rfl⟩⟩; refine ⟨_, rfl, ?_⟩))
  go_ret
  exact ⟨rfl, by repeat (first | exact Drawn0.refl _ | apply Drawn0.step)⟩
 ·have c3b0 : (a1 == (-1)) = false := beq_eq_false_iff_ne.mpr c3
  have c3b1 : (a1 != (-1)) = true := bne_iff_ne.mpr c3
  replace H := jS H; obtain ⟨t297, A6, H⟩ := H
  obtain rfl := Option.some.inj H
  go_enter Tryd.func51, Tryd.ntmps51
  go_wp2_with (first | ((with_reducible refine gC 66 rfl ?_); refine gL (some 12) Tryd.func66 #[.string a0, .int .i64 a1] ?_; (with_reducible refine (spec_riMove.calls a0 a1 t297 _ A6.out).mono ?_); rintro e w' ⟨rfl, ⟨nd, rfl⟩⟩; refine ⟨_, rfl, ?_⟩))
  go_ret
  exact ⟨rfl, by repeat (first | exact Drawn0.refl _ | apply Drawn0.step)⟩

end Go.Proofs.YtppbohghongfmaaDoor.PN
