-- written by a program of this session's (wip/tools), over the kit's print
import Derived.Test.YtdgpkdgpmidaoaaDoorPKx0
import Derived.Test.YtdgpkdgpmidaoaaDoorPKx2
import Derived.Test.YtdgpkdgpmidaoaaDoorPKx3
import Derived.Test.YtdgpkdgpmidaoaaDoorPKx4
import Derived.Test.YtdgpkdgpmidaoaaDoorPKx5
import Derived.Test.YtdgpkdgpmidaoaaDoorPKx6
import Derived.Test.YtdgpkdgpmidaoaaDoorPKx7
-- squeezed
-- squeezed twice
namespace Go.Proofs.YtdgpkdgpmidaoaaDoor.PK
open Go.RowKit Go.Proofs.YtdgpkdgpmidaoaaDoorW.PrintWords Go.Proofs.YtdgpkdgpmidaoaaDoorW.PrintLast Go.Proofs.YtdgpkdgpmidaoaaDoorW.PrintMore
attribute [local go_sem] max2_int min2_int max_two min_two max_three min_three max_four min_four   -- for this text's walks alone
set_option linter.unusedVariables false
set_option linter.unusedSimpArgs false

/-! ### spec_FirstKeyed: function 7 -/
mutual
def spec_FirstKeyed.l0 : Nat → List ByteArray → ByteArray → ByteArray → List Int → List Int → Option (List Int × Bool)
 | 0, _, _, _, _, _ => none
 | k + 1, x0, x1, x2, x8, x10 => if x1.toList = x2.toList then (some (x10, true)) else ((spec_keMoves.f k x0 x1).bind fun t292 => (spec_FirstKeyed.l1 k x0 x1 x2 x8 x10 t292 (t292.length : Int) 0))
def spec_FirstKeyed.l1 : Nat → List ByteArray → ByteArray → ByteArray → List Int → List Int → List Int → Int → Int → Option (List Int × Bool)
 | 0, _, _, _, _, _, _, _, _ => none
 | k + 1, x0, x1, x2, x8, x10, x36, x37, x38 => if x38 < x37 then (if 0 ≤ x38 then (if x38 < (x36.length : Int) then ((spec_riMove.f x1 (rd x36 x38)).bind fun t296 => ((spec_riNumber.f k t296).bind fun t297 => (if 0 ≤ t297 then (if t297 < (x8.length : Int) then ((spec_riNumber.f k x1).bind fun t299 => (if 0 ≤ t299 then (if t299 < (x8.length : Int) then (if (rd x8 t297) = (wrap64 ((rd x8 t299) - 1)) then (if x10.length < 17592186044416 then (spec_FirstKeyed.l0 k x0 t296 x2 x8 (x10 ++ [rd x36 x38])) else (none)) else (spec_FirstKeyed.l1 k x0 x1 x2 x8 x10 x36 x37 (wrap64 (x38 + 1)))) else (none)) else (none))) else (none)) else (none)))) else (none)) else (none)) else (spec_FirstKeyed.l0 k x0 x1 x2 x8 x10)
end
def spec_FirstKeyed.f (k : Nat) (l0 : List ByteArray) (a1 : ByteArray) (a2 : ByteArray) : Option (List Int × Bool) := (spec_keTwo.f k l0 a1 a2).bind fun t283 => (if t283 = true then ((spec_keFar.f k l0 a2).bind fun bt284 => ((spec_riNumber.f k a1).bind fun t290 => (if 0 ≤ t290 then (if t290 < (bt284.1.length : Int) then (if (rd bt284.1 t290) < 0 then (some (([] : List Int), false)) else (spec_FirstKeyed.l0 k l0 a1 a2 bt284.1 ([] : List Int))) else (none)) else (none)))) else (some (([] : List Int), false)))
theorem spec_FirstKeyed.mono_l : ∀ k, (∀ y0 y1 y2 y3 y4, LeO (spec_FirstKeyed.l0 k y0 y1 y2 y3 y4) (spec_FirstKeyed.l0 (k + 1) y0 y1 y2 y3 y4)) ∧ (∀ y0 y1 y2 y3 y4 y5 y6 y7, LeO (spec_FirstKeyed.l1 k y0 y1 y2 y3 y4 y5 y6 y7) (spec_FirstKeyed.l1 (k + 1) y0 y1 y2 y3 y4 y5 y6 y7))
 | 0 => ⟨fun _ _ _ _ _ r h => by simp [spec_FirstKeyed.l0] at h, fun _ _ _ _ _ _ _ _ r h => by simp [spec_FirstKeyed.l1] at h⟩
 | k + 1 => by
  obtain ⟨ih0, ih1⟩ := spec_FirstKeyed.mono_l k
  refine ⟨?_, ?_⟩
  ·intro y0 y1 y2 y3 y4
   unfold spec_FirstKeyed.l0
   with_reducible repeat' first | exact ih0 _ _ _ _ _ | exact ih1 _ _ _ _ _ _ _ _ | exact spec_keFar.mono _ _ _ | exact spec_keMoves.mono _ _ _ | exact spec_keTwo.mono _ _ _ _ | exact spec_riNumber.mono _ _ | exact LeO.refl _ | exact LeO.none _ | refine LeO.ite ?_ ?_ | refine LeO.bind ?_ (fun _ => ?_)
  ·intro y0 y1 y2 y3 y4 y5 y6 y7
   unfold spec_FirstKeyed.l1
   with_reducible repeat' first | exact ih0 _ _ _ _ _ | exact ih1 _ _ _ _ _ _ _ _ | exact spec_keFar.mono _ _ _ | exact spec_keMoves.mono _ _ _ | exact spec_keTwo.mono _ _ _ _ | exact spec_riNumber.mono _ _ | exact LeO.refl _ | exact LeO.none _ | refine LeO.ite ?_ ?_ | refine LeO.bind ?_ (fun _ => ?_)
theorem spec_FirstKeyed.mono : ∀ a0 a1 a2 k, LeO (spec_FirstKeyed.f k a0 a1 a2) (spec_FirstKeyed.f (k + 1) a0 a1 a2) := by
 intro a0 a1 a2 k
 obtain ⟨ih0, ih1⟩ := spec_FirstKeyed.mono_l k
 unfold spec_FirstKeyed.f
 with_reducible repeat' first | exact ih0 _ _ _ _ _ | exact ih1 _ _ _ _ _ _ _ _ | exact spec_keFar.mono _ _ _ | exact spec_keMoves.mono _ _ _ | exact spec_keTwo.mono _ _ _ _ | exact spec_riNumber.mono _ _ | exact LeO.refl _ | exact LeO.none _ | refine LeO.ite ?_ ?_ | refine LeO.bind ?_ (fun _ => ?_)
set_option maxHeartbeats 8000000 in
set_option maxRecDepth 100000 in
theorem spec_FirstKeyed.calls (k : Nat) (A0 : Option Addr) (c0 : Nat) (l0 : List ByteArray) (a1 : ByteArray) (a2 : ByteArray) (r1 : List Int) (r2 : Bool) (w : World) (hr0 : Kd.C Kd.string w A0 l0.length l0) (hc0 : l0.length ≤ c0) (h : spec_FirstKeyed.f k l0 a1 a2 = some (r1, r2)) :
  Calls Tryd.prog 7 #[.slice A0 l0.length c0, .string a1, .string a2] w fun e w' => ∃ v0_ : Value, e = .returned (.tuple #[v0_, .bool r2]) ∧ Kd.R (Kd.int .i64) 3 w' w.heap.size (fun _ => True) v0_ r1 ∧ Below w.heap.size w w' := by
 have HR0 := aM hr0
 have HC0 := aM hc0
 clear hr0 hc0
 have HB := aM (Below.refl w.heap.size w)
 have H := h; clear h; unfold spec_FirstKeyed.f at H
 replace H := jS H; obtain ⟨t283, A4, H⟩ := H
 by_cases c5 : t283 = true
 ·subst c5
  replace H := jT H
  replace H := jS H; obtain ⟨⟨t284, t285⟩, A6, H⟩ := H; dsimp only at H
  replace H := jS H; obtain ⟨t290, A7, H⟩ := H
  replace H := iC H; obtain ⟨c8, H⟩ := H
  have c8b0 := decide_eq_true c8
  clear c8
  replace H := iC H; obtain ⟨c9, H⟩ := H
  have c9b0 := decide_eq_true c9
  clear c9
  replace H := iO H; obtain ⟨c10, H⟩ | ⟨c10, H⟩ := H
  ·have c10b0 := decide_eq_true c10
   clear c10
   simp only [Option.some.injEq, Prod.mk.injEq] at H
   obtain ⟨rfl, rfl⟩ := H
   go_enter Tryd.func7, Tryd.ntmps7
   go_wp2_with (first | (go_at_call 33; (with_reducible refine (spec_keTwo.calls k _ _ l0 a1 a2 true _ ?side1 ?side2 A4.out).mono ?_); (case side1 => repeat (first | exact HR0.out | (with_reducible refine cA ?_ _) | (with_reducible refine cN ?_ _) | (with_reducible refine cD ?_))); (case side2 => exact HC0.out); rintro e w' ⟨rfl, ⟨nd, rfl⟩⟩; (try first | exact ⟨rfl, _, World.drewN_drewN _ _ _⟩ | exact ⟨rfl, _, Eq.trans (World.drewN_drewN _ _ _) (congrArg (World.drewN _) (Nat.add_assoc _ _ _))⟩)) | (go_at_call 34; (with_reducible refine (spec_keFar.calls k _ _ l0 a2 t284 t285 _ ?side1 ?side2 A6.out).mono ?_); (case side1 => repeat (first | exact HR0.out | (with_reducible refine cA ?_ _) | (with_reducible refine cN ?_ _) | (with_reducible refine cD ?_))); (case side2 => exact HC0.out); rintro e w11 ⟨v286, v288, rfl, ho0, ho1, hb⟩; have HO287 := aM (Kd.R_lower ho0 (below_size bQ)); have HO289 := aM (Kd.R_lower ho1 (below_size bQ)); replace HB := aM (below_step bQ hb); (try clear hb); (try clear ho0); (try clear ho1)) | (go_at_call 35; (with_reducible refine (spec_riNumber.calls k a1 t290 _ A7.out).mono ?_); rintro e w' ⟨rfl, ⟨nd, rfl⟩⟩; (try first | exact ⟨rfl, _, World.drewN_drewN _ _ _⟩ | exact ⟨rfl, _, Eq.trans (World.drewN_drewN _ _ _) (congrArg (World.drewN _) (Nat.add_assoc _ _ _))⟩); obtain ⟨Ao12, co12, eo12⟩ := Kd.R_slice HO287.out; subst eo12; obtain ⟨ad291, e291, hx291_0, p291, q291⟩ := aZ (Kd.at_int (Kd.R_reads' HO287.out).2.2 t290); cases e291))
   repeat (go_quiet (first | (go_at_call 33; (with_reducible refine (spec_keTwo.calls k _ _ l0 a1 a2 true _ ?side1 ?side2 A4.out).mono ?_); (case side1 => repeat (first | exact HR0.out | (with_reducible refine cA ?_ _) | (with_reducible refine cN ?_ _) | (with_reducible refine cD ?_))); (case side2 => exact HC0.out); rintro e w' ⟨rfl, ⟨nd, rfl⟩⟩; (try first | exact ⟨rfl, _, World.drewN_drewN _ _ _⟩ | exact ⟨rfl, _, Eq.trans (World.drewN_drewN _ _ _) (congrArg (World.drewN _) (Nat.add_assoc _ _ _))⟩)) | (go_at_call 34; (with_reducible refine (spec_keFar.calls k _ _ l0 a2 t284 t285 _ ?side1 ?side2 A6.out).mono ?_); (case side1 => repeat (first | exact HR0.out | (with_reducible refine cA ?_ _) | (with_reducible refine cN ?_ _) | (with_reducible refine cD ?_))); (case side2 => exact HC0.out); rintro e w11 ⟨v286, v288, rfl, ho0, ho1, hb⟩; have n0_ := aM (Kd.R_lower ho0 (below_size (by repeat (first | (with_reducible first | exact HB.out | apply bA | apply bN | apply bD) | exact HB.out)))); have n1_ := aM (Kd.R_lower ho1 (below_size (by repeat (first | (with_reducible first | exact HB.out | apply bA | apply bN | apply bD) | exact HB.out)))); have n2_ := aM (below_step (by repeat (first | (with_reducible first | exact HB.out | apply bA | apply bN | apply bD) | exact HB.out)) hb); clear HB; have HO287 := n0_; have HO289 := n1_; have HB := n2_; clear n0_ n1_ n2_; (try clear hb); (try clear hb2); (try clear hk); (try clear hi); (try clear ho0); (try clear ho1)) | (go_at_call 35; (with_reducible refine (spec_riNumber.calls k a1 t290 _ A7.out).mono ?_); rintro e w' ⟨rfl, ⟨nd, rfl⟩⟩; (try first | exact ⟨rfl, _, World.drewN_drewN _ _ _⟩ | exact ⟨rfl, _, Eq.trans (World.drewN_drewN _ _ _) (congrArg (World.drewN _) (Nat.add_assoc _ _ _))⟩); obtain ⟨Ao12, co12, eo12⟩ := Kd.R_slice HO287.out; subst eo12; have p291 : 0 ≤ (t290 : Int) := of_decide_eq_true (by first | (with_reducible assumption) | assumption); have q291 : t290 < (t284.length : Int) := of_decide_eq_true (by first | (with_reducible assumption) | assumption); obtain ⟨ad291, e291, hx291_0⟩ := Kd.at_int (Kd.R_reads' HO287.out).2.2 t290 p291 q291; cases e291; replace p291 := eq_true p291; replace q291 := eq_true q291)); try go_wp2_with (first | (go_at_call 33; (with_reducible refine (spec_keTwo.calls k _ _ l0 a1 a2 true _ ?side1 ?side2 A4.out).mono ?_); (case side1 => repeat (first | exact HR0.out | (with_reducible refine cA ?_ _) | (with_reducible refine cN ?_ _) | (with_reducible refine cD ?_))); (case side2 => exact HC0.out); rintro e w' ⟨rfl, ⟨nd, rfl⟩⟩; (try first | exact ⟨rfl, _, World.drewN_drewN _ _ _⟩ | exact ⟨rfl, _, Eq.trans (World.drewN_drewN _ _ _) (congrArg (World.drewN _) (Nat.add_assoc _ _ _))⟩)) | (go_at_call 34; (with_reducible refine (spec_keFar.calls k _ _ l0 a2 t284 t285 _ ?side1 ?side2 A6.out).mono ?_); (case side1 => repeat (first | exact HR0.out | (with_reducible refine cA ?_ _) | (with_reducible refine cN ?_ _) | (with_reducible refine cD ?_))); (case side2 => exact HC0.out); rintro e w11 ⟨v286, v288, rfl, ho0, ho1, hb⟩; have n0_ := aM (Kd.R_lower ho0 (below_size (by repeat (first | (with_reducible first | exact HB.out | apply bA | apply bN | apply bD) | exact HB.out)))); have n1_ := aM (Kd.R_lower ho1 (below_size (by repeat (first | (with_reducible first | exact HB.out | apply bA | apply bN | apply bD) | exact HB.out)))); have n2_ := aM (below_step (by repeat (first | (with_reducible first | exact HB.out | apply bA | apply bN | apply bD) | exact HB.out)) hb); clear HB; have HO287 := n0_; have HO289 := n1_; have HB := n2_; clear n0_ n1_ n2_; (try clear hb); (try clear hb2); (try clear hk); (try clear hi); (try clear ho0); (try clear ho1)) | (go_at_call 35; (with_reducible refine (spec_riNumber.calls k a1 t290 _ A7.out).mono ?_); rintro e w' ⟨rfl, ⟨nd, rfl⟩⟩; (try first | exact ⟨rfl, _, World.drewN_drewN _ _ _⟩ | exact ⟨rfl, _, Eq.trans (World.drewN_drewN _ _ _) (congrArg (World.drewN _) (Nat.add_assoc _ _ _))⟩); obtain ⟨Ao12, co12, eo12⟩ := Kd.R_slice HO287.out; subst eo12; have p291 : 0 ≤ (t290 : Int) := of_decide_eq_true (by first | (with_reducible assumption) | assumption); have q291 : t290 < (t284.length : Int) := of_decide_eq_true (by first | (with_reducible assumption) | assumption); obtain ⟨ad291, e291, hx291_0⟩ := Kd.at_int (Kd.R_reads' HO287.out).2.2 t290 p291 q291; cases e291; replace p291 := eq_true p291; replace q291 := eq_true q291)))
   go_ret2
   exact ⟨_, rfl, by first | exact Kd.R_nil _ _ _ _ _ | exact Kd.N_nil _ _ _ _ _ | exact Kd.V_nil _ _ _ _ _ | exact Kd.Q_nil _ _ _ _ _ | exact Kd.S_nil _ _ _ _ _, bQ⟩
  ·have c10b0 := decide_eq_false c10
   clear c10
   have H' := aM H
   clear H
   go_enter Tryd.func7, Tryd.ntmps7
   go_wp2_with (first | (go_at_call 33; (with_reducible refine (spec_keTwo.calls k _ _ l0 a1 a2 true _ ?side1 ?side2 A4.out).mono ?_); (case side1 => repeat (first | exact HR0.out | (with_reducible refine cA ?_ _) | (with_reducible refine cN ?_ _) | (with_reducible refine cD ?_))); (case side2 => exact HC0.out); rintro e w' ⟨rfl, ⟨nd, rfl⟩⟩; (try first | exact ⟨rfl, _, World.drewN_drewN _ _ _⟩ | exact ⟨rfl, _, Eq.trans (World.drewN_drewN _ _ _) (congrArg (World.drewN _) (Nat.add_assoc _ _ _))⟩)) | (go_at_call 34; (with_reducible refine (spec_keFar.calls k _ _ l0 a2 t284 t285 _ ?side1 ?side2 A6.out).mono ?_); (case side1 => repeat (first | exact HR0.out | (with_reducible refine cA ?_ _) | (with_reducible refine cN ?_ _) | (with_reducible refine cD ?_))); (case side2 => exact HC0.out); rintro e w13 ⟨v286, v288, rfl, ho0, ho1, hb⟩; have HO287 := aM (Kd.R_lower ho0 (below_size bQ)); have HO289 := aM (Kd.R_lower ho1 (below_size bQ)); replace HB := aM (below_step bQ hb); (try clear hb); (try clear ho0); (try clear ho1)) | (go_at_call 35; (with_reducible refine (spec_riNumber.calls k a1 t290 _ A7.out).mono ?_); rintro e w' ⟨rfl, ⟨nd, rfl⟩⟩; (try first | exact ⟨rfl, _, World.drewN_drewN _ _ _⟩ | exact ⟨rfl, _, Eq.trans (World.drewN_drewN _ _ _) (congrArg (World.drewN _) (Nat.add_assoc _ _ _))⟩); obtain ⟨Ao14, co14, eo14⟩ := Kd.R_slice HO287.out; subst eo14; obtain ⟨ad291, e291, hx291_0, p291, q291⟩ := aZ (Kd.at_int (Kd.R_reads' HO287.out).2.2 t290); cases e291))
   repeat (go_quiet (first | (go_at_call 33; (with_reducible refine (spec_keTwo.calls k _ _ l0 a1 a2 true _ ?side1 ?side2 A4.out).mono ?_); (case side1 => repeat (first | exact HR0.out | (with_reducible refine cA ?_ _) | (with_reducible refine cN ?_ _) | (with_reducible refine cD ?_))); (case side2 => exact HC0.out); rintro e w' ⟨rfl, ⟨nd, rfl⟩⟩; (try first | exact ⟨rfl, _, World.drewN_drewN _ _ _⟩ | exact ⟨rfl, _, Eq.trans (World.drewN_drewN _ _ _) (congrArg (World.drewN _) (Nat.add_assoc _ _ _))⟩)) | (go_at_call 34; (with_reducible refine (spec_keFar.calls k _ _ l0 a2 t284 t285 _ ?side1 ?side2 A6.out).mono ?_); (case side1 => repeat (first | exact HR0.out | (with_reducible refine cA ?_ _) | (with_reducible refine cN ?_ _) | (with_reducible refine cD ?_))); (case side2 => exact HC0.out); rintro e w13 ⟨v286, v288, rfl, ho0, ho1, hb⟩; have n0_ := aM (Kd.R_lower ho0 (below_size (by repeat (first | (with_reducible first | exact HB.out | apply bA | apply bN | apply bD) | exact HB.out)))); have n1_ := aM (Kd.R_lower ho1 (below_size (by repeat (first | (with_reducible first | exact HB.out | apply bA | apply bN | apply bD) | exact HB.out)))); have n2_ := aM (below_step (by repeat (first | (with_reducible first | exact HB.out | apply bA | apply bN | apply bD) | exact HB.out)) hb); clear HB; have HO287 := n0_; have HO289 := n1_; have HB := n2_; clear n0_ n1_ n2_; (try clear hb); (try clear hb2); (try clear hk); (try clear hi); (try clear ho0); (try clear ho1)) | (go_at_call 35; (with_reducible refine (spec_riNumber.calls k a1 t290 _ A7.out).mono ?_); rintro e w' ⟨rfl, ⟨nd, rfl⟩⟩; (try first | exact ⟨rfl, _, World.drewN_drewN _ _ _⟩ | exact ⟨rfl, _, Eq.trans (World.drewN_drewN _ _ _) (congrArg (World.drewN _) (Nat.add_assoc _ _ _))⟩); obtain ⟨Ao14, co14, eo14⟩ := Kd.R_slice HO287.out; subst eo14; have p291 : 0 ≤ (t290 : Int) := of_decide_eq_true (by first | (with_reducible assumption) | assumption); have q291 : t290 < (t284.length : Int) := of_decide_eq_true (by first | (with_reducible assumption) | assumption); obtain ⟨ad291, e291, hx291_0⟩ := Kd.at_int (Kd.R_reads' HO287.out).2.2 t290 p291 q291; cases e291; replace p291 := eq_true p291; replace q291 := eq_true q291)); try go_wp2_with (first | (go_at_call 33; (with_reducible refine (spec_keTwo.calls k _ _ l0 a1 a2 true _ ?side1 ?side2 A4.out).mono ?_); (case side1 => repeat (first | exact HR0.out | (with_reducible refine cA ?_ _) | (with_reducible refine cN ?_ _) | (with_reducible refine cD ?_))); (case side2 => exact HC0.out); rintro e w' ⟨rfl, ⟨nd, rfl⟩⟩; (try first | exact ⟨rfl, _, World.drewN_drewN _ _ _⟩ | exact ⟨rfl, _, Eq.trans (World.drewN_drewN _ _ _) (congrArg (World.drewN _) (Nat.add_assoc _ _ _))⟩)) | (go_at_call 34; (with_reducible refine (spec_keFar.calls k _ _ l0 a2 t284 t285 _ ?side1 ?side2 A6.out).mono ?_); (case side1 => repeat (first | exact HR0.out | (with_reducible refine cA ?_ _) | (with_reducible refine cN ?_ _) | (with_reducible refine cD ?_))); (case side2 => exact HC0.out); rintro e w13 ⟨v286, v288, rfl, ho0, ho1, hb⟩; have n0_ := aM (Kd.R_lower ho0 (below_size (by repeat (first | (with_reducible first | exact HB.out | apply bA | apply bN | apply bD) | exact HB.out)))); have n1_ := aM (Kd.R_lower ho1 (below_size (by repeat (first | (with_reducible first | exact HB.out | apply bA | apply bN | apply bD) | exact HB.out)))); have n2_ := aM (below_step (by repeat (first | (with_reducible first | exact HB.out | apply bA | apply bN | apply bD) | exact HB.out)) hb); clear HB; have HO287 := n0_; have HO289 := n1_; have HB := n2_; clear n0_ n1_ n2_; (try clear hb); (try clear hb2); (try clear hk); (try clear hi); (try clear ho0); (try clear ho1)) | (go_at_call 35; (with_reducible refine (spec_riNumber.calls k a1 t290 _ A7.out).mono ?_); rintro e w' ⟨rfl, ⟨nd, rfl⟩⟩; (try first | exact ⟨rfl, _, World.drewN_drewN _ _ _⟩ | exact ⟨rfl, _, Eq.trans (World.drewN_drewN _ _ _) (congrArg (World.drewN _) (Nat.add_assoc _ _ _))⟩); obtain ⟨Ao14, co14, eo14⟩ := Kd.R_slice HO287.out; subst eo14; have p291 : 0 ≤ (t290 : Int) := of_decide_eq_true (by first | (with_reducible assumption) | assumption); have q291 : t290 < (t284.length : Int) := of_decide_eq_true (by first | (with_reducible assumption) | assumption); obtain ⟨ad291, e291, hx291_0⟩ := Kd.at_int (Kd.R_reads' HO287.out).2.2 t290 p291 q291; cases e291; replace p291 := eq_true p291; replace q291 := eq_true q291)))
   go_loopg [1, 10] k (fun kq v1 v10 w' => ∃ (x1_1 : ByteArray) (x10_1 : List Int), v1 = .string x1_1 ∧ Aside0 (spec_FirstKeyed.l0 kq l0 x1_1 a2 t284 x10_1 = some (r1, r2)) ∧ Aside0 (kq ≤ k) ∧ Aside0 (Kd.R (Kd.int .i64) 3 w' w.heap.size (fun k_ => some k_ ≠ (v10 : Value).ownBlock) (.slice (some ad291) t284.length co14) t284) ∧ Aside0 (Kd.R (Kd.int .i64) 3 w' w.heap.size (fun k_ => some k_ ≠ ((.slice (some ad291) t284.length co14) : Value).ownBlock) v10 x10_1) ∧ Aside0 (Below w.heap.size w w'))
   case atStart => exact ⟨(a1), (([] : List Int)), rfl, H', ⟨Nat.le_refl _⟩, ⟨by (with_reducible repeat (first | apply rA | apply rN | apply rD)); exact Kd.R_mono HO287.out (fun _ hk => (by simp [Value.ownBlock]))⟩, ⟨by first | exact Kd.R_nil _ _ _ _ _ | exact Kd.N_nil _ _ _ _ _ | exact Kd.V_nil _ _ _ _ _ | exact Kd.Q_nil _ _ _ _ _ | exact Kd.S_nil _ _ _ _ _⟩, ⟨bQ⟩⟩
   case round =>
    clear H'
    clear c8b0 c9b0 c10b0 hx291_0 p291 q291
    obtain ⟨x1_1, x10_1, rfl, HA, HK1, HO_8, HO_10, HB⟩ := hrel
    cases gk with
    | zero => exact absurd HA.out (by simp [spec_FirstKeyed.l0])
    | succ k1 =>
     have H := HA.out
     clear HA
     simp only [spec_FirstKeyed.l0] at H
     replace H := iO H; obtain ⟨c15, H⟩ | ⟨c15, H⟩ := H
     ·have c15b0 : (x1_1.toList == a2.toList) = true := beq_iff_eq.mpr c15
      have c15b1 : (x1_1.toList != a2.toList) = false := bne_eq_false_iff_eq.mpr c15
      clear c15
      simp only [Option.some.injEq, Prod.mk.injEq] at H
      obtain ⟨rfl, rfl⟩ := H
      go_wp2
      repeat (go_quiet (fail); try go_wp2)
      go_ret2
      exact ⟨_, rfl, by (with_reducible repeat (first | apply rA | apply rN | apply rD)); exact Kd.R_mono HO_10.out (fun _ hk => trivial), bQ⟩
     ·have c15b0 : (x1_1.toList == a2.toList) = false := beq_eq_false_iff_ne.mpr c15
      have c15b1 : (x1_1.toList != a2.toList) = true := bne_iff_ne.mpr c15
      replace H := jS H; obtain ⟨t292, A16, H⟩ := H
      have H' := aM H
      clear H
      go_wp2_with (first | (go_at_call 36; (with_reducible refine (spec_keMoves.calls k1 _ _ l0 x1_1 t292 _ ?side1 ?side2 A16.out).mono ?_); (case side1 => repeat first | exact Kd.C_below HR0.out HB.out | refine cA ?_ _ | refine cN ?_ _ | refine cD ?_); (case side2 => exact HC0.out); rintro e w17 ⟨v293, rfl, ho0, hb⟩; have HO294 := aM (Kd.R_lower (Kd.R_new' (Kd.R_new' ho0 (Kd.R_lt (rQ HO_8.out))) (Kd.R_lt (rQ HO_10.out))) (below_size bQ)); replace HO_8 := aM (Kd.R_elder' (rQ HO_8.out) (Kd.R_base ho0) hb); replace HO_10 := aM (Kd.R_elder' (rQ HO_10.out) (Kd.R_base ho0) hb); replace HB := aM (below_step bQ hb); (try clear hb); (try clear ho0); obtain ⟨Ao18, co18, eo18⟩ := Kd.R_slice HO294.out; subst eo18))
      repeat (go_quiet (first | (go_at_call 36; (with_reducible refine (spec_keMoves.calls k1 _ _ l0 x1_1 t292 _ ?side1 ?side2 A16.out).mono ?_); (case side1 => repeat first | exact Kd.C_below HR0.out HB.out | refine cA ?_ _ | refine cN ?_ _ | refine cD ?_); (case side2 => exact HC0.out); rintro e w17 ⟨v293, rfl, ho0, hb⟩; have HO294 := aM (Kd.R_lower (Kd.R_new' (Kd.R_new' ho0 (Kd.R_lt (rQ HO_8.out))) (Kd.R_lt (rQ HO_10.out))) (below_size bQ)); replace HO_8 := aM (Kd.R_elder' (rQ HO_8.out) (Kd.R_base ho0) hb); replace HO_10 := aM (Kd.R_elder' (rQ HO_10.out) (Kd.R_base ho0) hb); replace HB := aM (below_step bQ hb); (try clear hb); (try clear ho0); obtain ⟨Ao18, co18, eo18⟩ := Kd.R_slice HO294.out; subst eo18)); try go_wp2_with (first | (go_at_call 36; (with_reducible refine (spec_keMoves.calls k1 _ _ l0 x1_1 t292 _ ?side1 ?side2 A16.out).mono ?_); (case side1 => repeat first | exact Kd.C_below HR0.out HB.out | refine cA ?_ _ | refine cN ?_ _ | refine cD ?_); (case side2 => exact HC0.out); rintro e w17 ⟨v293, rfl, ho0, hb⟩; have HO294 := aM (Kd.R_lower (Kd.R_new' (Kd.R_new' ho0 (Kd.R_lt (rQ HO_8.out))) (Kd.R_lt (rQ HO_10.out))) (below_size bQ)); replace HO_8 := aM (Kd.R_elder' (rQ HO_8.out) (Kd.R_base ho0) hb); replace HO_10 := aM (Kd.R_elder' (rQ HO_10.out) (Kd.R_base ho0) hb); replace HB := aM (below_step bQ hb); (try clear hb); (try clear ho0); obtain ⟨Ao18, co18, eo18⟩ := Kd.R_slice HO294.out; subst eo18)))
      go_loopg [1, 10, 38] k1 (fun kq v1 v10 v38 w' => ∃ (x1_2 : ByteArray) (x10_2 : List Int) (x38_2 : Int), v1 = .string x1_2 ∧ v38 = .int .i64 x38_2 ∧ Aside0 (spec_FirstKeyed.l1 kq l0 x1_2 a2 t284 x10_2 t292 (t292.length : Int) x38_2 = some (r1, r2)) ∧ Aside0 (kq ≤ k1) ∧ Aside0 (Kd.R (Kd.int .i64) 3 w' w.heap.size (fun k_ => some k_ ≠ (v10 : Value).ownBlock ∧ some k_ ≠ ((.slice Ao18 t292.length co18) : Value).ownBlock) (.slice (some ad291) t284.length co14) t284) ∧ Aside0 (Kd.R (Kd.int .i64) 3 w' w.heap.size (fun k_ => some k_ ≠ ((.slice (some ad291) t284.length co14) : Value).ownBlock ∧ some k_ ≠ ((.slice Ao18 t292.length co18) : Value).ownBlock) v10 x10_2) ∧ Aside0 (Kd.R (Kd.int .i64) 3 w' w.heap.size (fun k_ => some k_ ≠ ((.slice (some ad291) t284.length co14) : Value).ownBlock ∧ some k_ ≠ (v10 : Value).ownBlock) (.slice Ao18 t292.length co18) t292) ∧ Aside0 (Below w.heap.size w w'))
      case atStart => exact ⟨(x1_1), (x10_1), (0), rfl, rfl, H', ⟨Nat.le_refl _⟩, ⟨rQ HO_8.out⟩, ⟨rQ HO_10.out⟩, ⟨by (with_reducible repeat (first | apply rA | apply rN | apply rD)); exact Kd.R_mono HO294.out (fun _ hk => ⟨hk.1.2, hk.2⟩)⟩, ⟨bQ⟩⟩
      case round =>
       clear H'
       clear c15 c15b0 c15b1
       obtain ⟨x1_2, x10_2, x38_2, rfl, rfl, HA, HK2, HO_8, HO_10, HO_36, HB⟩ := hrel
       cases gk with
       | zero => exact absurd HA.out (by simp [spec_FirstKeyed.l1])
       | succ k2 =>
        have H := HA.out
        clear HA
        simp only [spec_FirstKeyed.l1] at H
        replace H := iO H; obtain ⟨c19, H⟩ | ⟨c19, H⟩ := H
        ·have c19b0 := decide_eq_true c19
         clear c19
         replace H := iC H; obtain ⟨c20, H⟩ := H
         have c20b0 := decide_eq_true c20
         clear c20
         replace H := iN H; obtain ⟨c21b0, H⟩ := H
         replace H := jS H; obtain ⟨t296, A22, H⟩ := H
         replace H := jS H; obtain ⟨t297, A23, H⟩ := H
         replace H := iC H; obtain ⟨c24, H⟩ := H
         have c24b0 := decide_eq_true c24
         clear c24
         replace H := iN H; obtain ⟨c25b0, H⟩ := H
         replace H := jS H; obtain ⟨t299, A26, H⟩ := H
         replace H := iC H; obtain ⟨c27, H⟩ := H
         have c27b0 := decide_eq_true c27
         clear c27
         replace H := iC H; obtain ⟨c28, H⟩ := H
         have c28b0 := decide_eq_true c28
         clear c28
         replace H := iO H; obtain ⟨c29, H⟩ | ⟨c29, H⟩ := H
         ·have c29b0 : ((rd t284 t297) == (wrap64 ((rd t284 t299) - 1))) = true := beq_iff_eq.mpr c29
          have c29q : ((rd t284 t297) == IntKind.i64.wrap ((rd t284 t299) - 1)) = true := by rw [i64_w]; exact c29b0
          have c29b1 : ((rd t284 t297) != (wrap64 ((rd t284 t299) - 1))) = false := bne_eq_false_iff_eq.mpr c29
          clear c29
          replace H := iC H; obtain ⟨c30, H⟩ := H
          have LMc30 := aM c30
          clear c30
          obtain ⟨y301, Ny301, h_⟩ := yG (α := List Int) (x10_2 ++ [rd t292 x38_2]); rw [← h_] at H; clear h_
          have H' := aM H
          clear H; obtain ⟨ad295, e295, hx295_0, p295, q295⟩ := aZ (Kd.at_int (Kd.R_reads' HO_36.out).2.2 x38_2); cases e295
          go_wp2_with (first | (go_at_call 37; (with_reducible refine (spec_riMove.calls x1_2 (rd t292 x38_2) t296 _ A22.out).mono ?_); rintro e w' ⟨rfl, ⟨nd, rfl⟩⟩; (try first | exact ⟨rfl, _, World.drewN_drewN _ _ _⟩ | exact ⟨rfl, _, Eq.trans (World.drewN_drewN _ _ _) (congrArg (World.drewN _) (Nat.add_assoc _ _ _))⟩)) | (go_at_call 35; (with_reducible refine (spec_riNumber.calls k2 t296 t297 _ A23.out).mono ?_); rintro e w' ⟨rfl, ⟨nd, rfl⟩⟩; (try first | exact ⟨rfl, _, World.drewN_drewN _ _ _⟩ | exact ⟨rfl, _, Eq.trans (World.drewN_drewN _ _ _) (congrArg (World.drewN _) (Nat.add_assoc _ _ _))⟩); obtain ⟨ad298, e298, hx298_0, p298, q298⟩ := aZ (Kd.at_int (Kd.R_reads' HO_8.out).2.2 t297); cases e298) | (go_at_call 35; (with_reducible refine (spec_riNumber.calls k2 x1_2 t299 _ A26.out).mono ?_); rintro e w' ⟨rfl, ⟨nd, rfl⟩⟩; (try first | exact ⟨rfl, _, World.drewN_drewN _ _ _⟩ | exact ⟨rfl, _, Eq.trans (World.drewN_drewN _ _ _) (congrArg (World.drewN _) (Nat.add_assoc _ _ _))⟩); obtain ⟨ad300, e300, hx300_0, p300, q300⟩ := aZ (Kd.at_int (Kd.R_reads' HO_8.out).2.2 t299); cases e300) | ((with_reducible refine gate_builtin (b := .append) (xs := #[.tmp 57, .tmp 59]) rfl ?_); at_builtin; refine Kd.R_append (Kd.int .i64) (w0 := w) w.heap.size rfl (.tmp 57) (.tmp 59) 27 3 (.int .i64 0) 8 rfl Tryd.underlying27 info3 rfl (by decide) (by omega) u10 x10_2 (rd t292 x38_2) [.int .i64 (rd t292 x38_2)] (fun k_ => some k_ ≠ (.slice (some ad291) t284.length co14 : Value).ownBlock ∧ some k_ ≠ (.slice (some ad295) t292.length co18 : Value).ownBlock) (fun _ => False) rfl rfl ?aP (fun _ hk => hk.elim) ?aF ?aO ?aB ?aS ?aL ?_; (case aP => exact rfl); (case aB => exact bQ); (case aF => exact (fun k_ hk => ⟨Kd.fresh' (Kd.R_lt (rQ HO_8.out)) k_ hk, Kd.fresh' (Kd.R_lt (rQ HO_36.out)) k_ hk⟩)); (case aO => exact (rQ HO_10.out)); (case aS => exact (below_size bQ)); (case aL => have := LMc30.out; omega); intro v302 w31 ho hb hg hat; rw [← Ny301.out] at ho; replace HO_8 := aM (Kd.R_after (ok := (fun k_ => some k_ ≠ (.slice (some ad295) t292.length co18 : Value).ownBlock)) (by (with_reducible repeat (first | apply rA | apply rN | apply rD)); exact Kd.R_mono HO_8.out (fun _ hk => ⟨hk.2, hk.1⟩)) hg hat); replace HO_36 := aM (Kd.R_after (ok := (fun k_ => some k_ ≠ (.slice (some ad291) t284.length co14 : Value).ownBlock)) (rQ HO_36.out) hg hat); replace HB := aM (hb); have HO303 := aM (ho); clear ho hb hg hat))
          repeat (go_quiet (first | (go_at_call 37; (with_reducible refine (spec_riMove.calls x1_2 (rd t292 x38_2) t296 _ A22.out).mono ?_); rintro e w' ⟨rfl, ⟨nd, rfl⟩⟩; (try first | exact ⟨rfl, _, World.drewN_drewN _ _ _⟩ | exact ⟨rfl, _, Eq.trans (World.drewN_drewN _ _ _) (congrArg (World.drewN _) (Nat.add_assoc _ _ _))⟩)) | (go_at_call 35; (with_reducible refine (spec_riNumber.calls k2 t296 t297 _ A23.out).mono ?_); rintro e w' ⟨rfl, ⟨nd, rfl⟩⟩; (try first | exact ⟨rfl, _, World.drewN_drewN _ _ _⟩ | exact ⟨rfl, _, Eq.trans (World.drewN_drewN _ _ _) (congrArg (World.drewN _) (Nat.add_assoc _ _ _))⟩); obtain ⟨ad298, e298, hx298_0, p298, q298⟩ := aZ (Kd.at_int (Kd.R_reads' HO_8.out).2.2 t297); cases e298) | (go_at_call 35; (with_reducible refine (spec_riNumber.calls k2 x1_2 t299 _ A26.out).mono ?_); rintro e w' ⟨rfl, ⟨nd, rfl⟩⟩; (try first | exact ⟨rfl, _, World.drewN_drewN _ _ _⟩ | exact ⟨rfl, _, Eq.trans (World.drewN_drewN _ _ _) (congrArg (World.drewN _) (Nat.add_assoc _ _ _))⟩); obtain ⟨ad300, e300, hx300_0, p300, q300⟩ := aZ (Kd.at_int (Kd.R_reads' HO_8.out).2.2 t299); cases e300) | ((with_reducible refine gate_builtin (b := .append) (xs := #[.tmp 57, .tmp 59]) rfl ?_); at_builtin; refine Kd.R_append (Kd.int .i64) (w0 := w) w.heap.size rfl (.tmp 57) (.tmp 59) 27 3 (.int .i64 0) 8 rfl Tryd.underlying27 info3 rfl (by decide) (by omega) u10 x10_2 (rd t292 x38_2) [.int .i64 (rd t292 x38_2)] (fun k_ => some k_ ≠ (.slice (some ad291) t284.length co14 : Value).ownBlock ∧ some k_ ≠ (.slice (some ad295) t292.length co18 : Value).ownBlock) (fun _ => False) rfl rfl ?aP (fun _ hk => hk.elim) ?aF ?aO ?aB ?aS ?aL ?_; (case aP => exact rfl); (case aB => exact bQ); (case aF => exact (fun k_ hk => ⟨Kd.fresh' (Kd.R_lt (rQ HO_8.out)) k_ hk, Kd.fresh' (Kd.R_lt (rQ HO_36.out)) k_ hk⟩)); (case aO => exact (rQ HO_10.out)); (case aS => exact (below_size bQ)); (case aL => have := LMc30.out; omega); intro v302 w31 ho hb hg hat; rw [← Ny301.out] at ho; replace HO_8 := aM (Kd.R_after (ok := (fun k_ => some k_ ≠ (.slice (some ad295) t292.length co18 : Value).ownBlock)) (by (with_reducible repeat (first | apply rA | apply rN | apply rD)); exact Kd.R_mono HO_8.out (fun _ hk => ⟨hk.2, hk.1⟩)) hg hat); replace HO_36 := aM (Kd.R_after (ok := (fun k_ => some k_ ≠ (.slice (some ad291) t284.length co14 : Value).ownBlock)) (rQ HO_36.out) hg hat); replace HB := aM (hb); have HO303 := aM (ho); clear ho hb hg hat)); try go_wp2_with (first | (go_at_call 37; (with_reducible refine (spec_riMove.calls x1_2 (rd t292 x38_2) t296 _ A22.out).mono ?_); rintro e w' ⟨rfl, ⟨nd, rfl⟩⟩; (try first | exact ⟨rfl, _, World.drewN_drewN _ _ _⟩ | exact ⟨rfl, _, Eq.trans (World.drewN_drewN _ _ _) (congrArg (World.drewN _) (Nat.add_assoc _ _ _))⟩)) | (go_at_call 35; (with_reducible refine (spec_riNumber.calls k2 t296 t297 _ A23.out).mono ?_); rintro e w' ⟨rfl, ⟨nd, rfl⟩⟩; (try first | exact ⟨rfl, _, World.drewN_drewN _ _ _⟩ | exact ⟨rfl, _, Eq.trans (World.drewN_drewN _ _ _) (congrArg (World.drewN _) (Nat.add_assoc _ _ _))⟩); obtain ⟨ad298, e298, hx298_0, p298, q298⟩ := aZ (Kd.at_int (Kd.R_reads' HO_8.out).2.2 t297); cases e298) | (go_at_call 35; (with_reducible refine (spec_riNumber.calls k2 x1_2 t299 _ A26.out).mono ?_); rintro e w' ⟨rfl, ⟨nd, rfl⟩⟩; (try first | exact ⟨rfl, _, World.drewN_drewN _ _ _⟩ | exact ⟨rfl, _, Eq.trans (World.drewN_drewN _ _ _) (congrArg (World.drewN _) (Nat.add_assoc _ _ _))⟩); obtain ⟨ad300, e300, hx300_0, p300, q300⟩ := aZ (Kd.at_int (Kd.R_reads' HO_8.out).2.2 t299); cases e300) | ((with_reducible refine gate_builtin (b := .append) (xs := #[.tmp 57, .tmp 59]) rfl ?_); at_builtin; refine Kd.R_append (Kd.int .i64) (w0 := w) w.heap.size rfl (.tmp 57) (.tmp 59) 27 3 (.int .i64 0) 8 rfl Tryd.underlying27 info3 rfl (by decide) (by omega) u10 x10_2 (rd t292 x38_2) [.int .i64 (rd t292 x38_2)] (fun k_ => some k_ ≠ (.slice (some ad291) t284.length co14 : Value).ownBlock ∧ some k_ ≠ (.slice (some ad295) t292.length co18 : Value).ownBlock) (fun _ => False) rfl rfl ?aP (fun _ hk => hk.elim) ?aF ?aO ?aB ?aS ?aL ?_; (case aP => exact rfl); (case aB => exact bQ); (case aF => exact (fun k_ hk => ⟨Kd.fresh' (Kd.R_lt (rQ HO_8.out)) k_ hk, Kd.fresh' (Kd.R_lt (rQ HO_36.out)) k_ hk⟩)); (case aO => exact (rQ HO_10.out)); (case aS => exact (below_size bQ)); (case aL => have := LMc30.out; omega); intro v302 w31 ho hb hg hat; rw [← Ny301.out] at ho; replace HO_8 := aM (Kd.R_after (ok := (fun k_ => some k_ ≠ (.slice (some ad295) t292.length co18 : Value).ownBlock)) (by (with_reducible repeat (first | apply rA | apply rN | apply rD)); exact Kd.R_mono HO_8.out (fun _ hk => ⟨hk.2, hk.1⟩)) hg hat); replace HO_36 := aM (Kd.R_after (ok := (fun k_ => some k_ ≠ (.slice (some ad291) t284.length co14 : Value).ownBlock)) (rQ HO_36.out) hg hat); replace HB := aM (hb); have HO303 := aM (ho); clear ho hb hg hat)))
          go_roundg k2
          case measure => have := HK1.out; have := HK2.out; omega
          case rel => exact ⟨(t296), (y301), rfl, H', ⟨by have := HK1.out; have := HK2.out; omega⟩, ⟨by (with_reducible repeat (first | apply rA | apply rN | apply rD)); exact Kd.R_mono HO_8.out (fun _ hk => hk.2)⟩, ⟨by (with_reducible repeat (first | apply rA | apply rN | apply rD)); exact Kd.R_mono HO303.out (fun _ hk => hk.1)⟩, ⟨bQ⟩⟩
         ·have c29b0 : ((rd t284 t297) == (wrap64 ((rd t284 t299) - 1))) = false := beq_eq_false_iff_ne.mpr c29
          have c29q : ((rd t284 t297) == IntKind.i64.wrap ((rd t284 t299) - 1)) = false := by rw [i64_w]; exact c29b0
          have c29b1 : ((rd t284 t297) != (wrap64 ((rd t284 t299) - 1))) = true := bne_iff_ne.mpr c29
          have H' := aM H
          clear H; obtain ⟨ad295, e295, hx295_0, p295, q295⟩ := aZ (Kd.at_int (Kd.R_reads' HO_36.out).2.2 x38_2); cases e295
          go_wp2_with (first | (go_at_call 37; (with_reducible refine (spec_riMove.calls x1_2 (rd t292 x38_2) t296 _ A22.out).mono ?_); rintro e w' ⟨rfl, ⟨nd, rfl⟩⟩; (try first | exact ⟨rfl, _, World.drewN_drewN _ _ _⟩ | exact ⟨rfl, _, Eq.trans (World.drewN_drewN _ _ _) (congrArg (World.drewN _) (Nat.add_assoc _ _ _))⟩)) | (go_at_call 35; (with_reducible refine (spec_riNumber.calls k2 t296 t297 _ A23.out).mono ?_); rintro e w' ⟨rfl, ⟨nd, rfl⟩⟩; (try first | exact ⟨rfl, _, World.drewN_drewN _ _ _⟩ | exact ⟨rfl, _, Eq.trans (World.drewN_drewN _ _ _) (congrArg (World.drewN _) (Nat.add_assoc _ _ _))⟩); have p298 : 0 ≤ (t297 : Int) := of_decide_eq_true (by first | (with_reducible assumption) | assumption); have q298 : t297 < (t284.length : Int) := of_decide_eq_true (by first | (with_reducible assumption) | assumption); obtain ⟨ad298, e298, hx298_0⟩ := Kd.at_int (Kd.R_reads' HO_8.out).2.2 t297 p298 q298; obtain rfl : ad291 = ad298 := (by injection e298); replace p298 := eq_true p298; replace q298 := eq_true q298) | (go_at_call 35; (with_reducible refine (spec_riNumber.calls k2 x1_2 t299 _ A26.out).mono ?_); rintro e w' ⟨rfl, ⟨nd, rfl⟩⟩; (try first | exact ⟨rfl, _, World.drewN_drewN _ _ _⟩ | exact ⟨rfl, _, Eq.trans (World.drewN_drewN _ _ _) (congrArg (World.drewN _) (Nat.add_assoc _ _ _))⟩); have p300 : 0 ≤ (t299 : Int) := of_decide_eq_true (by first | (with_reducible assumption) | assumption); have q300 : t299 < (t284.length : Int) := of_decide_eq_true (by first | (with_reducible assumption) | assumption); obtain ⟨ad300, e300, hx300_0⟩ := Kd.at_int (Kd.R_reads' HO_8.out).2.2 t299 p300 q300; obtain rfl : ad291 = ad300 := (by injection e300); replace p300 := eq_true p300; replace q300 := eq_true q300))
          repeat (go_quiet (first | (go_at_call 37; (with_reducible refine (spec_riMove.calls x1_2 (rd t292 x38_2) t296 _ A22.out).mono ?_); rintro e w' ⟨rfl, ⟨nd, rfl⟩⟩; (try first | exact ⟨rfl, _, World.drewN_drewN _ _ _⟩ | exact ⟨rfl, _, Eq.trans (World.drewN_drewN _ _ _) (congrArg (World.drewN _) (Nat.add_assoc _ _ _))⟩)) | (go_at_call 35; (with_reducible refine (spec_riNumber.calls k2 t296 t297 _ A23.out).mono ?_); rintro e w' ⟨rfl, ⟨nd, rfl⟩⟩; (try first | exact ⟨rfl, _, World.drewN_drewN _ _ _⟩ | exact ⟨rfl, _, Eq.trans (World.drewN_drewN _ _ _) (congrArg (World.drewN _) (Nat.add_assoc _ _ _))⟩); have p298 : 0 ≤ (t297 : Int) := of_decide_eq_true (by first | (with_reducible assumption) | assumption); have q298 : t297 < (t284.length : Int) := of_decide_eq_true (by first | (with_reducible assumption) | assumption); obtain ⟨ad298, e298, hx298_0⟩ := Kd.at_int (Kd.R_reads' HO_8.out).2.2 t297 p298 q298; obtain rfl : ad291 = ad298 := (by injection e298); replace p298 := eq_true p298; replace q298 := eq_true q298) | (go_at_call 35; (with_reducible refine (spec_riNumber.calls k2 x1_2 t299 _ A26.out).mono ?_); rintro e w' ⟨rfl, ⟨nd, rfl⟩⟩; (try first | exact ⟨rfl, _, World.drewN_drewN _ _ _⟩ | exact ⟨rfl, _, Eq.trans (World.drewN_drewN _ _ _) (congrArg (World.drewN _) (Nat.add_assoc _ _ _))⟩); have p300 : 0 ≤ (t299 : Int) := of_decide_eq_true (by first | (with_reducible assumption) | assumption); have q300 : t299 < (t284.length : Int) := of_decide_eq_true (by first | (with_reducible assumption) | assumption); obtain ⟨ad300, e300, hx300_0⟩ := Kd.at_int (Kd.R_reads' HO_8.out).2.2 t299 p300 q300; obtain rfl : ad291 = ad300 := (by injection e300); replace p300 := eq_true p300; replace q300 := eq_true q300)); try go_wp2_with (first | (go_at_call 37; (with_reducible refine (spec_riMove.calls x1_2 (rd t292 x38_2) t296 _ A22.out).mono ?_); rintro e w' ⟨rfl, ⟨nd, rfl⟩⟩; (try first | exact ⟨rfl, _, World.drewN_drewN _ _ _⟩ | exact ⟨rfl, _, Eq.trans (World.drewN_drewN _ _ _) (congrArg (World.drewN _) (Nat.add_assoc _ _ _))⟩)) | (go_at_call 35; (with_reducible refine (spec_riNumber.calls k2 t296 t297 _ A23.out).mono ?_); rintro e w' ⟨rfl, ⟨nd, rfl⟩⟩; (try first | exact ⟨rfl, _, World.drewN_drewN _ _ _⟩ | exact ⟨rfl, _, Eq.trans (World.drewN_drewN _ _ _) (congrArg (World.drewN _) (Nat.add_assoc _ _ _))⟩); have p298 : 0 ≤ (t297 : Int) := of_decide_eq_true (by first | (with_reducible assumption) | assumption); have q298 : t297 < (t284.length : Int) := of_decide_eq_true (by first | (with_reducible assumption) | assumption); obtain ⟨ad298, e298, hx298_0⟩ := Kd.at_int (Kd.R_reads' HO_8.out).2.2 t297 p298 q298; obtain rfl : ad291 = ad298 := (by injection e298); replace p298 := eq_true p298; replace q298 := eq_true q298) | (go_at_call 35; (with_reducible refine (spec_riNumber.calls k2 x1_2 t299 _ A26.out).mono ?_); rintro e w' ⟨rfl, ⟨nd, rfl⟩⟩; (try first | exact ⟨rfl, _, World.drewN_drewN _ _ _⟩ | exact ⟨rfl, _, Eq.trans (World.drewN_drewN _ _ _) (congrArg (World.drewN _) (Nat.add_assoc _ _ _))⟩); have p300 : 0 ≤ (t299 : Int) := of_decide_eq_true (by first | (with_reducible assumption) | assumption); have q300 : t299 < (t284.length : Int) := of_decide_eq_true (by first | (with_reducible assumption) | assumption); obtain ⟨ad300, e300, hx300_0⟩ := Kd.at_int (Kd.R_reads' HO_8.out).2.2 t299 p300 q300; obtain rfl : ad291 = ad300 := (by injection e300); replace p300 := eq_true p300; replace q300 := eq_true q300)))
          go_roundg k2
          case measure => have := HK1.out; have := HK2.out; omega
          case rel => exact ⟨(x1_2), (x10_2), (wrap64 (x38_2 + 1)), rfl, rfl, H', ⟨by have := HK1.out; have := HK2.out; omega⟩, ⟨rQ HO_8.out⟩, ⟨rQ HO_10.out⟩, ⟨rQ HO_36.out⟩, ⟨bQ⟩⟩
        ·have c19b0 := decide_eq_false c19
         clear c19
         have H' := aM H
         clear H
         go_wp2
         repeat (go_quiet (fail); try go_wp2)
         go_roundg k2
         case measure => have := HK1.out; have := HK2.out; omega
         case rel => exact ⟨(x1_2), (x10_2), rfl, H', ⟨by have := HK1.out; have := HK2.out; omega⟩, ⟨by (with_reducible repeat (first | apply rA | apply rN | apply rD)); exact Kd.R_mono HO_8.out (fun _ hk => hk.1)⟩, ⟨by (with_reducible repeat (first | apply rA | apply rN | apply rD)); exact Kd.R_mono HO_10.out (fun _ hk => hk.1)⟩, ⟨bQ⟩⟩
 ·replace c5 := Bool.eq_false_iff.mpr c5
  subst c5
  replace H := jF H
  simp only [Option.some.injEq, Prod.mk.injEq] at H
  obtain ⟨rfl, rfl⟩ := H
  go_enter Tryd.func7, Tryd.ntmps7
  go_wp2_with (first | (go_at_call 33; (with_reducible refine (spec_keTwo.calls k _ _ l0 a1 a2 false _ ?side1 ?side2 A4.out).mono ?_); (case side1 => repeat (first | exact HR0.out | (with_reducible refine cA ?_ _) | (with_reducible refine cN ?_ _) | (with_reducible refine cD ?_))); (case side2 => exact HC0.out); rintro e w' ⟨rfl, ⟨nd, rfl⟩⟩; (try first | exact ⟨rfl, _, World.drewN_drewN _ _ _⟩ | exact ⟨rfl, _, Eq.trans (World.drewN_drewN _ _ _) (congrArg (World.drewN _) (Nat.add_assoc _ _ _))⟩)))
  repeat (go_quiet (first | (go_at_call 33; (with_reducible refine (spec_keTwo.calls k _ _ l0 a1 a2 false _ ?side1 ?side2 A4.out).mono ?_); (case side1 => repeat (first | exact HR0.out | (with_reducible refine cA ?_ _) | (with_reducible refine cN ?_ _) | (with_reducible refine cD ?_))); (case side2 => exact HC0.out); rintro e w' ⟨rfl, ⟨nd, rfl⟩⟩; (try first | exact ⟨rfl, _, World.drewN_drewN _ _ _⟩ | exact ⟨rfl, _, Eq.trans (World.drewN_drewN _ _ _) (congrArg (World.drewN _) (Nat.add_assoc _ _ _))⟩))); try go_wp2_with (first | (go_at_call 33; (with_reducible refine (spec_keTwo.calls k _ _ l0 a1 a2 false _ ?side1 ?side2 A4.out).mono ?_); (case side1 => repeat (first | exact HR0.out | (with_reducible refine cA ?_ _) | (with_reducible refine cN ?_ _) | (with_reducible refine cD ?_))); (case side2 => exact HC0.out); rintro e w' ⟨rfl, ⟨nd, rfl⟩⟩; (try first | exact ⟨rfl, _, World.drewN_drewN _ _ _⟩ | exact ⟨rfl, _, Eq.trans (World.drewN_drewN _ _ _) (congrArg (World.drewN _) (Nat.add_assoc _ _ _))⟩))))
  go_ret2
  exact ⟨_, rfl, by first | exact Kd.R_nil _ _ _ _ _ | exact Kd.N_nil _ _ _ _ _ | exact Kd.V_nil _ _ _ _ _ | exact Kd.Q_nil _ _ _ _ _ | exact Kd.S_nil _ _ _ _ _, bQ⟩

/-! ### impl_FewestKeyed: function 8 (told by hand) -/
def impl_FewestKeyed.f (k : Nat) (l0 : List ByteArray) (a1 : ByteArray) (a2 : ByteArray) : Option (Int × Bool) :=
 (impl_keyed.f k l0 [a1, a2]).bind fun t => if t = true then (if a1.size ≤ maxLen ∧ a2.size ≤ maxLen then ((impl_searchKeyed.f k l0 a1).bind fun q => some ((q.2.1 a2).getD 0, (q.2.1 a2).isSome)) else none) else some (0, false)
theorem impl_FewestKeyed.mono : ∀ a0 a1 a2 k, LeO (impl_FewestKeyed.f k a0 a1 a2) (impl_FewestKeyed.f (k + 1) a0 a1 a2) := fun _ _ _ k =>
 LeO.bind (impl_keyed.mono _ _ _) (fun _ => LeO.ite (LeO.ite (LeO.bind (impl_searchKeyed.mono _ _ _) (fun _ => LeO.refl _)) (LeO.refl _)) (LeO.refl _))
set_option maxHeartbeats 8000000 in
set_option maxRecDepth 100000 in
theorem impl_FewestKeyed.calls (k : Nat) (A0 : Option Addr) (c0 : Nat) (l0 : List ByteArray) (a1 : ByteArray) (a2 : ByteArray) (r1 : Int) (r2 : Bool) (w : World) (hr0 : Kd.C Kd.string w A0 l0.length l0) (hc0 : l0.length ≤ c0) (h : impl_FewestKeyed.f k l0 a1 a2 = some (r1, r2)) :
  Calls Tryd.prog 8 #[.slice A0 l0.length c0, .string a1, .string a2] w fun e w' => e = .returned (.tuple #[.int .i64 r1, .bool r2]) ∧ Below w.heap.size w w' := by
 have hu2 := Tryd.underlying52
 have HR0 := aM hr0
 have HC0 := aM hc0
 clear hr0 hc0
 unfold impl_FewestKeyed.f at h
 obtain ⟨ys, hys⟩ : ∃ y_ : List ByteArray, y_ = ([a1, a2] : List ByteArray) := ⟨_, rfl⟩
 rw [← hys] at h
 have NY := aM hys
 clear hys
 obtain ⟨t, G_, h⟩ := Option.bind_eq_some_iff.mp h
 have HG := aM G_
 clear G_
 cases t with
 | false =>
  rw [if_neg (by simp)] at h
  simp only [Option.some.injEq, Prod.mk.injEq] at h
  obtain ⟨rfl, rfl⟩ := h
  go_enter Tryd.func8, Tryd.ntmps8
  go_wp2_with (first | ((with_reducible refine gate_dst (N := 13) rfl ?_); refine Kd.R_lit Kd.string _ 9 ?hg (N := 13) ?hd (xs := ([a1, a2] : List ByteArray)) (inner := [.string a1, .string a2]) (ok := fun _ => True) (okp := fun _ => True) ?hr ?hp (fun _ hk => hk) trivial (Below.refl _ _) (Nat.le_refl _) (by simp) ?_; (case hd => rfl); (case hg => rfl); (case hr => go_simp); (case hp => exact (Reps.one (show Kd.M Kd.string _ _ _ a1 [.string a1] from rfl) (Reps.one (show Kd.M Kd.string _ _ _ a2 [.string a2] from rfl) (Reps.none _ _)))); intro v8 w8 ho hb hg_ hnew_; clear hg_ hnew_; rw [← NY.out] at ho; have HO := aM ho; have HB := aM hb; clear hb ho; obtain ⟨Ao, co, eo⟩ := Kd.R_slice HO.out; subst eo) | ((with_reducible refine gC 29 rfl ?_); refine gL (some 14) Tryd.func29 #[.slice A0 l0.length c0, .slice Ao ys.length co] ?_; (with_reducible refine (impl_keyed.calls k _ _ l0 _ _ ys false _ ?side1 ?side2 ?side5 ?side6 HG.out).mono ?_); (case side1 => exact Kd.C_below HR0.out HB.out); (case side2 => exact HC0.out); (case side5 => exact (Kd.R_reads' HO.out).2.2); (case side6 => exact (Kd.R_reads' HO.out).2.1); rintro e w11 ⟨rfl, hb⟩; refine ⟨_, rfl, ?_⟩; have n2_ := aM (below_step HB.out hb); clear HB hb HO; have HB := n2_; clear n2_))
  go_ret2
  exact ⟨rfl, HB.out⟩
 | true =>
  rw [if_pos rfl] at h
  by_cases s1 : a1.size ≤ maxLen ∧ a2.size ≤ maxLen
  ·rw [if_pos s1] at h
   have HS := aM (show (a1.size ≤ maxLen ∧ a2.size ≤ maxLen) ∧ True from ⟨s1, trivial⟩)
   clear s1
   obtain ⟨q, Q_, h⟩ := Option.bind_eq_some_iff.mp h
   have HQ := aM Q_
   clear Q_
   obtain ⟨n, hn⟩ : ∃ n : Int, (q.2.1 a2).getD 0 = n := ⟨_, rfl⟩
   obtain ⟨o, hoo⟩ : ∃ o : Bool, (q.2.1 a2).isSome = o := ⟨_, rfl⟩
   rw [hn, hoo] at h
   have N1 := aM hn
   have N2 := aM hoo
   clear hn hoo
   simp only [Option.some.injEq, Prod.mk.injEq] at h
   obtain ⟨rfl, rfl⟩ := h
   go_enter Tryd.func8, Tryd.ntmps8
   go_wp2_with (first | ((with_reducible refine gate_dst (N := 13) rfl ?_); refine Kd.R_lit Kd.string _ 9 ?hg (N := 13) ?hd (xs := ([a1, a2] : List ByteArray)) (inner := [.string a1, .string a2]) (ok := fun _ => True) (okp := fun _ => True) ?hr ?hp (fun _ hk => hk) trivial (Below.refl _ _) (Nat.le_refl _) (by simp) ?_; (case hd => rfl); (case hg => rfl); (case hr => go_simp); (case hp => exact (Reps.one (show Kd.M Kd.string _ _ _ a1 [.string a1] from rfl) (Reps.one (show Kd.M Kd.string _ _ _ a2 [.string a2] from rfl) (Reps.none _ _)))); intro v8 w8 ho hb hg_ hnew_; clear hg_ hnew_; rw [← NY.out] at ho; have HO := aM ho; have HB := aM hb; clear hb ho; obtain ⟨Ao, co, eo⟩ := Kd.R_slice HO.out; subst eo) | ((with_reducible refine gC 29 rfl ?_); refine gL (some 14) Tryd.func29 #[.slice A0 l0.length c0, .slice Ao ys.length co] ?_; (with_reducible refine (impl_keyed.calls k _ _ l0 _ _ ys true _ ?side1 ?side2 ?side5 ?side6 HG.out).mono ?_); (case side1 => exact Kd.C_below HR0.out HB.out); (case side2 => exact HC0.out); (case side5 => exact (Kd.R_reads' HO.out).2.2); (case side6 => exact (Kd.R_reads' HO.out).2.1); rintro e w11 ⟨rfl, hb⟩; refine ⟨_, rfl, ?_⟩; have n2_ := aM (below_step HB.out hb); clear HB hb HO; have HB := n2_; clear n2_) | ((with_reducible refine gC 30 rfl ?_); refine gL (some 19) Tryd.func30 #[.slice A0 l0.length c0, .string a1] ?_; (with_reducible refine (impl_searchKeyed.calls k _ _ l0 a1 q _ ?side1 ?side2 ?side5 HQ.out).mono ?_); (case side1 => exact Kd.C_below HR0.out HB.out); (case side2 => exact HC0.out); (case side5 => exact HS.out.1.1); rintro e w13 ⟨gr, rfl, b1, b2, v, c, hS⟩; refine ⟨_, rfl, ?_⟩; obtain ⟨Av, cv, ev⟩ := Kd.R_slice hS.lst; subst ev; have SS := aM (hS.rebase HB.out); clear hS; have hx0 : w13.cell? ⟨gr, 0, none⟩ = some (.slice Av q.1.length cv) := (blk_cell SS.out.blk 0).trans rfl; have hx1 : w13.cell? ⟨gr, 1, none⟩ = some (.map (some b1)) := (blk_cell SS.out.blk 1).trans rfl; have hx2 : w13.cell? ⟨gr, 2, none⟩ = some (.map (some b2)) := (blk_cell SS.out.blk 2).trans rfl) | (at_lookup; refine MapS.look2_v SS.out.far N1.out N2.out HS.out.1.2 rfl _ _ rfl rfl rfl ?_))
   go_ret2
   exact ⟨rfl, SS.out.bel⟩
  ·rw [if_neg s1] at h
   cases h

/-! ### spec_FewestKeyed: function 9 -/
def spec_FewestKeyed.f (k : Nat) (l0 : List ByteArray) (a1 : ByteArray) (a2 : ByteArray) : Option (Int × Bool) := (spec_keTwo.f k l0 a1 a2).bind fun t304 => (if t304 = true then ((spec_keFar.f k l0 a2).bind fun bt305 => ((spec_riNumber.f k a1).bind fun t311 => (if 0 ≤ t311 then (if t311 < (bt305.1.length : Int) then (if (rd bt305.1 t311) < 0 then (some (0, false)) else (some (rd bt305.1 t311, true))) else (none)) else (none)))) else (some (0, false)))
theorem spec_FewestKeyed.mono : ∀ a0 a1 a2 k, LeO (spec_FewestKeyed.f k a0 a1 a2) (spec_FewestKeyed.f (k + 1) a0 a1 a2) := by
 intro a0 a1 a2 k
 unfold spec_FewestKeyed.f
 with_reducible repeat' first | exact spec_keFar.mono _ _ _ | exact spec_keTwo.mono _ _ _ _ | exact spec_riNumber.mono _ _ | exact LeO.refl _ | exact LeO.none _ | refine LeO.ite ?_ ?_ | refine LeO.bind ?_ (fun _ => ?_)
set_option maxHeartbeats 8000000 in
set_option maxRecDepth 100000 in
theorem spec_FewestKeyed.calls (k : Nat) (A0 : Option Addr) (c0 : Nat) (l0 : List ByteArray) (a1 : ByteArray) (a2 : ByteArray) (r1 : Int) (r2 : Bool) (w : World) (hr0 : Kd.C Kd.string w A0 l0.length l0) (hc0 : l0.length ≤ c0) (h : spec_FewestKeyed.f k l0 a1 a2 = some (r1, r2)) :
  Calls Tryd.prog 9 #[.slice A0 l0.length c0, .string a1, .string a2] w fun e w' => e = .returned (.tuple #[.int .i64 r1, .bool r2]) ∧ Below w.heap.size w w' := by
 have HR0 := aM hr0
 have HC0 := aM hc0
 clear hr0 hc0
 have HB := aM (Below.refl w.heap.size w)
 have H := h; clear h; unfold spec_FewestKeyed.f at H
 replace H := jS H; obtain ⟨t304, A4, H⟩ := H
 by_cases c5 : t304 = true
 ·subst c5
  replace H := jT H
  replace H := jS H; obtain ⟨⟨t305, t306⟩, A6, H⟩ := H; dsimp only at H
  replace H := jS H; obtain ⟨t311, A7, H⟩ := H
  replace H := iC H; obtain ⟨c8, H⟩ := H
  have c8b0 := decide_eq_true c8
  clear c8
  replace H := iC H; obtain ⟨c9, H⟩ := H
  have c9b0 := decide_eq_true c9
  clear c9
  replace H := iE H; obtain ⟨c10b0, H⟩ | ⟨c10b0, H⟩ := H
  ·simp only [Option.some.injEq, Prod.mk.injEq] at H
   obtain ⟨rfl, rfl⟩ := H
   go_enter Tryd.func9, Tryd.ntmps9
   go_wp2_with (first | ((with_reducible refine gC 33 rfl ?_); refine gL (some 14) Tryd.func33 #[.slice A0 l0.length c0, .string a1, .string a2] ?_; (with_reducible refine (spec_keTwo.calls k _ _ l0 a1 a2 true _ ?side1 ?side2 A4.out).mono ?_); (case side1 => repeat (first | exact HR0.out | (with_reducible refine cA ?_ _) | (with_reducible refine cN ?_ _) | (with_reducible refine cD ?_))); (case side2 => exact HC0.out); rintro e w' ⟨rfl, ⟨nd, rfl⟩⟩; refine ⟨_, rfl, ?_⟩) | ((with_reducible refine gC 34 rfl ?_); refine gL (some 19) Tryd.func34 #[.slice A0 l0.length c0, .string a2] ?_; (with_reducible refine (spec_keFar.calls k _ _ l0 a2 t305 t306 _ ?side1 ?side2 A6.out).mono ?_); (case side1 => repeat (first | exact HR0.out | (with_reducible refine cA ?_ _) | (with_reducible refine cN ?_ _) | (with_reducible refine cD ?_))); (case side2 => exact HC0.out); rintro e w11 ⟨v307, v309, rfl, ho0, ho1, hb⟩; refine ⟨_, rfl, ?_⟩; have HO308 := aM (Kd.R_lower ho0 (below_size bQ)); have HO310 := aM (Kd.R_lower ho1 (below_size bQ)); replace HB := aM (below_step bQ hb); (try clear hb); (try clear ho0); (try clear ho1)) | ((with_reducible refine gC 35 rfl ?_); refine gL (some 24) Tryd.func35 #[.string a1] ?_; (with_reducible refine (spec_riNumber.calls k a1 t311 _ A7.out).mono ?_); rintro e w' ⟨rfl, ⟨nd, rfl⟩⟩; refine ⟨_, rfl, ?_⟩; obtain ⟨Ao12, co12, eo12⟩ := Kd.R_slice HO308.out; subst eo12; obtain ⟨ad312, e312, hx312_0, p312, q312⟩ := aZ (Kd.at_int (Kd.R_reads' HO308.out).2.2 t311); cases e312))
   go_ret2
   exact ⟨rfl, bQ⟩
  ·simp only [Option.some.injEq, Prod.mk.injEq] at H
   obtain ⟨rfl, rfl⟩ := H
   go_enter Tryd.func9, Tryd.ntmps9
   go_wp2_with (first | ((with_reducible refine gC 33 rfl ?_); refine gL (some 14) Tryd.func33 #[.slice A0 l0.length c0, .string a1, .string a2] ?_; (with_reducible refine (spec_keTwo.calls k _ _ l0 a1 a2 true _ ?side1 ?side2 A4.out).mono ?_); (case side1 => repeat (first | exact HR0.out | (with_reducible refine cA ?_ _) | (with_reducible refine cN ?_ _) | (with_reducible refine cD ?_))); (case side2 => exact HC0.out); rintro e w' ⟨rfl, ⟨nd, rfl⟩⟩; refine ⟨_, rfl, ?_⟩) | ((with_reducible refine gC 34 rfl ?_); refine gL (some 19) Tryd.func34 #[.slice A0 l0.length c0, .string a2] ?_; (with_reducible refine (spec_keFar.calls k _ _ l0 a2 t305 t306 _ ?side1 ?side2 A6.out).mono ?_); (case side1 => repeat (first | exact HR0.out | (with_reducible refine cA ?_ _) | (with_reducible refine cN ?_ _) | (with_reducible refine cD ?_))); (case side2 => exact HC0.out); rintro e w13 ⟨v307, v309, rfl, ho0, ho1, hb⟩; refine ⟨_, rfl, ?_⟩; have HO308 := aM (Kd.R_lower ho0 (below_size bQ)); have HO310 := aM (Kd.R_lower ho1 (below_size bQ)); replace HB := aM (below_step bQ hb); (try clear hb); (try clear ho0); (try clear ho1)) | ((with_reducible refine gC 35 rfl ?_); refine gL (some 24) Tryd.func35 #[.string a1] ?_; (with_reducible refine (spec_riNumber.calls k a1 t311 _ A7.out).mono ?_); rintro e w' ⟨rfl, ⟨nd, rfl⟩⟩; refine ⟨_, rfl, ?_⟩; obtain ⟨Ao14, co14, eo14⟩ := Kd.R_slice HO308.out; subst eo14; obtain ⟨ad312, e312, hx312_0, p312, q312⟩ := aZ (Kd.at_int (Kd.R_reads' HO308.out).2.2 t311); cases e312))
   go_ret2
   exact ⟨rfl, bQ⟩
 ·replace c5 := Bool.eq_false_iff.mpr c5
  subst c5
  replace H := jF H
  simp only [Option.some.injEq, Prod.mk.injEq] at H
  obtain ⟨rfl, rfl⟩ := H
  go_enter Tryd.func9, Tryd.ntmps9
  go_wp2_with (first | ((with_reducible refine gC 33 rfl ?_); refine gL (some 14) Tryd.func33 #[.slice A0 l0.length c0, .string a1, .string a2] ?_; (with_reducible refine (spec_keTwo.calls k _ _ l0 a1 a2 false _ ?side1 ?side2 A4.out).mono ?_); (case side1 => repeat (first | exact HR0.out | (with_reducible refine cA ?_ _) | (with_reducible refine cN ?_ _) | (with_reducible refine cD ?_))); (case side2 => exact HC0.out); rintro e w' ⟨rfl, ⟨nd, rfl⟩⟩; refine ⟨_, rfl, ?_⟩))
  go_ret2
  exact ⟨rfl, bQ⟩

/-! ### impl_CountKeyedWays: function 10 (told by hand) -/
def impl_CountKeyedWays.f (k : Nat) (l0 : List ByteArray) (a1 : ByteArray) (a2 : ByteArray) : Option (Int × Bool) :=
 (impl_keyed.f k l0 [a1, a2]).bind fun t => if t = true then (if a1.size ≤ maxLen ∧ a2.size ≤ maxLen then ((impl_searchKeyed.f k l0 a1).bind fun q => some ((q.2.2 a2).getD 0, true)) else none) else some (0, false)
theorem impl_CountKeyedWays.mono : ∀ a0 a1 a2 k, LeO (impl_CountKeyedWays.f k a0 a1 a2) (impl_CountKeyedWays.f (k + 1) a0 a1 a2) := fun _ _ _ k =>
 LeO.bind (impl_keyed.mono _ _ _) (fun _ => LeO.ite (LeO.ite (LeO.bind (impl_searchKeyed.mono _ _ _) (fun _ => LeO.refl _)) (LeO.refl _)) (LeO.refl _))
set_option maxHeartbeats 8000000 in
set_option maxRecDepth 100000 in
theorem impl_CountKeyedWays.calls (k : Nat) (A0 : Option Addr) (c0 : Nat) (l0 : List ByteArray) (a1 : ByteArray) (a2 : ByteArray) (r1 : Int) (r2 : Bool) (w : World) (hr0 : Kd.C Kd.string w A0 l0.length l0) (hc0 : l0.length ≤ c0) (h : impl_CountKeyedWays.f k l0 a1 a2 = some (r1, r2)) :
  Calls Tryd.prog 10 #[.slice A0 l0.length c0, .string a1, .string a2] w fun e w' => e = .returned (.tuple #[.int .i64 r1, .bool r2]) ∧ Below w.heap.size w w' := by
 have hu2 := Tryd.underlying52
 have HR0 := aM hr0
 have HC0 := aM hc0
 clear hr0 hc0
 unfold impl_CountKeyedWays.f at h
 obtain ⟨ys, hys⟩ : ∃ y_ : List ByteArray, y_ = ([a1, a2] : List ByteArray) := ⟨_, rfl⟩
 rw [← hys] at h
 have NY := aM hys
 clear hys
 obtain ⟨t, G_, h⟩ := Option.bind_eq_some_iff.mp h
 have HG := aM G_
 clear G_
 cases t with
 | false =>
  rw [if_neg (by simp)] at h
  simp only [Option.some.injEq, Prod.mk.injEq] at h
  obtain ⟨rfl, rfl⟩ := h
  go_enter Tryd.func10, Tryd.ntmps10
  go_wp2_with (first | ((with_reducible refine gate_dst (N := 11) rfl ?_); refine Kd.R_lit Kd.string _ 9 ?hg (N := 11) ?hd (xs := ([a1, a2] : List ByteArray)) (inner := [.string a1, .string a2]) (ok := fun _ => True) (okp := fun _ => True) ?hr ?hp (fun _ hk => hk) trivial (Below.refl _ _) (Nat.le_refl _) (by simp) ?_; (case hd => rfl); (case hg => rfl); (case hr => go_simp); (case hp => exact (Reps.one (show Kd.M Kd.string _ _ _ a1 [.string a1] from rfl) (Reps.one (show Kd.M Kd.string _ _ _ a2 [.string a2] from rfl) (Reps.none _ _)))); intro v8 w8 ho hb hg_ hnew_; clear hg_ hnew_; rw [← NY.out] at ho; have HO := aM ho; have HB := aM hb; clear hb ho; obtain ⟨Ao, co, eo⟩ := Kd.R_slice HO.out; subst eo) | ((with_reducible refine gC 29 rfl ?_); refine gL (some 12) Tryd.func29 #[.slice A0 l0.length c0, .slice Ao ys.length co] ?_; (with_reducible refine (impl_keyed.calls k _ _ l0 _ _ ys false _ ?side1 ?side2 ?side5 ?side6 HG.out).mono ?_); (case side1 => exact Kd.C_below HR0.out HB.out); (case side2 => exact HC0.out); (case side5 => exact (Kd.R_reads' HO.out).2.2); (case side6 => exact (Kd.R_reads' HO.out).2.1); rintro e w11 ⟨rfl, hb⟩; refine ⟨_, rfl, ?_⟩; have n2_ := aM (below_step HB.out hb); clear HB hb HO; have HB := n2_; clear n2_))
  go_ret2
  exact ⟨rfl, HB.out⟩
 | true =>
  rw [if_pos rfl] at h
  by_cases s1 : a1.size ≤ maxLen ∧ a2.size ≤ maxLen
  ·rw [if_pos s1] at h
   have HS := aM (show (a1.size ≤ maxLen ∧ a2.size ≤ maxLen) ∧ True from ⟨s1, trivial⟩)
   clear s1
   obtain ⟨q, Q_, h⟩ := Option.bind_eq_some_iff.mp h
   have HQ := aM Q_
   clear Q_
   obtain ⟨n, hn⟩ : ∃ n : Int, (q.2.2 a2).getD 0 = n := ⟨_, rfl⟩
   rw [hn] at h
   have N1 := aM hn
   clear hn
   simp only [Option.some.injEq, Prod.mk.injEq] at h
   obtain ⟨rfl, rfl⟩ := h
   go_enter Tryd.func10, Tryd.ntmps10
   go_wp2_with (first | ((with_reducible refine gate_dst (N := 11) rfl ?_); refine Kd.R_lit Kd.string _ 9 ?hg (N := 11) ?hd (xs := ([a1, a2] : List ByteArray)) (inner := [.string a1, .string a2]) (ok := fun _ => True) (okp := fun _ => True) ?hr ?hp (fun _ hk => hk) trivial (Below.refl _ _) (Nat.le_refl _) (by simp) ?_; (case hd => rfl); (case hg => rfl); (case hr => go_simp); (case hp => exact (Reps.one (show Kd.M Kd.string _ _ _ a1 [.string a1] from rfl) (Reps.one (show Kd.M Kd.string _ _ _ a2 [.string a2] from rfl) (Reps.none _ _)))); intro v8 w8 ho hb hg_ hnew_; clear hg_ hnew_; rw [← NY.out] at ho; have HO := aM ho; have HB := aM hb; clear hb ho; obtain ⟨Ao, co, eo⟩ := Kd.R_slice HO.out; subst eo) | ((with_reducible refine gC 29 rfl ?_); refine gL (some 12) Tryd.func29 #[.slice A0 l0.length c0, .slice Ao ys.length co] ?_; (with_reducible refine (impl_keyed.calls k _ _ l0 _ _ ys true _ ?side1 ?side2 ?side5 ?side6 HG.out).mono ?_); (case side1 => exact Kd.C_below HR0.out HB.out); (case side2 => exact HC0.out); (case side5 => exact (Kd.R_reads' HO.out).2.2); (case side6 => exact (Kd.R_reads' HO.out).2.1); rintro e w11 ⟨rfl, hb⟩; refine ⟨_, rfl, ?_⟩; have n2_ := aM (below_step HB.out hb); clear HB hb HO; have HB := n2_; clear n2_) | ((with_reducible refine gC 30 rfl ?_); refine gL (some 16) Tryd.func30 #[.slice A0 l0.length c0, .string a1] ?_; (with_reducible refine (impl_searchKeyed.calls k _ _ l0 a1 q _ ?side1 ?side2 ?side5 HQ.out).mono ?_); (case side1 => exact Kd.C_below HR0.out HB.out); (case side2 => exact HC0.out); (case side5 => exact HS.out.1.1); rintro e w13 ⟨gr, rfl, b1, b2, v, c, hS⟩; refine ⟨_, rfl, ?_⟩; obtain ⟨Av, cv, ev⟩ := Kd.R_slice hS.lst; subst ev; have SS := aM (hS.rebase HB.out); clear hS; have hx0 : w13.cell? ⟨gr, 0, none⟩ = some (.slice Av q.1.length cv) := (blk_cell SS.out.blk 0).trans rfl; have hx1 : w13.cell? ⟨gr, 1, none⟩ = some (.map (some b1)) := (blk_cell SS.out.blk 1).trans rfl; have hx2 : w13.cell? ⟨gr, 2, none⟩ = some (.map (some b2)) := (blk_cell SS.out.blk 2).trans rfl) | (at_lookup; refine MapS.look_v SS.out.way N1.out HS.out.1.2 rfl _ _ rfl rfl rfl ?_))
   go_ret2
   exact ⟨rfl, SS.out.bel⟩
  ·rw [if_neg s1] at h
   cases h

/-! ### spec_CountKeyedWays: function 11 -/
def spec_CountKeyedWays.f (k : Nat) (l0 : List ByteArray) (a1 : ByteArray) (a2 : ByteArray) : Option (Int × Bool) := (spec_keTwo.f k l0 a1 a2).bind fun t313 => (if t313 = true then ((spec_keFar.f k l0 a2).bind fun bt314 => ((spec_riNumber.f k a1).bind fun t320 => (if 0 ≤ t320 then (if t320 < (bt314.2.length : Int) then (some (rd bt314.2 t320, true)) else (none)) else (none)))) else (some (0, false)))
theorem spec_CountKeyedWays.mono : ∀ a0 a1 a2 k, LeO (spec_CountKeyedWays.f k a0 a1 a2) (spec_CountKeyedWays.f (k + 1) a0 a1 a2) := by
 intro a0 a1 a2 k
 unfold spec_CountKeyedWays.f
 with_reducible repeat' first | exact spec_keFar.mono _ _ _ | exact spec_keTwo.mono _ _ _ _ | exact spec_riNumber.mono _ _ | exact LeO.refl _ | exact LeO.none _ | refine LeO.ite ?_ ?_ | refine LeO.bind ?_ (fun _ => ?_)
set_option maxHeartbeats 8000000 in
set_option maxRecDepth 100000 in
theorem spec_CountKeyedWays.calls (k : Nat) (A0 : Option Addr) (c0 : Nat) (l0 : List ByteArray) (a1 : ByteArray) (a2 : ByteArray) (r1 : Int) (r2 : Bool) (w : World) (hr0 : Kd.C Kd.string w A0 l0.length l0) (hc0 : l0.length ≤ c0) (h : spec_CountKeyedWays.f k l0 a1 a2 = some (r1, r2)) :
  Calls Tryd.prog 11 #[.slice A0 l0.length c0, .string a1, .string a2] w fun e w' => e = .returned (.tuple #[.int .i64 r1, .bool r2]) ∧ Below w.heap.size w w' := by
 have HR0 := aM hr0
 have HC0 := aM hc0
 clear hr0 hc0
 have HB := aM (Below.refl w.heap.size w)
 have H := h; clear h; unfold spec_CountKeyedWays.f at H
 replace H := jS H; obtain ⟨t313, A4, H⟩ := H
 by_cases c5 : t313 = true
 ·subst c5
  replace H := jT H
  replace H := jS H; obtain ⟨⟨t314, t315⟩, A6, H⟩ := H; dsimp only at H
  replace H := jS H; obtain ⟨t320, A7, H⟩ := H
  replace H := iC H; obtain ⟨c8, H⟩ := H
  have c8b0 := decide_eq_true c8
  clear c8
  replace H := iN H; obtain ⟨c9b0, H⟩ := H
  simp only [Option.some.injEq, Prod.mk.injEq] at H
  obtain ⟨rfl, rfl⟩ := H
  go_enter Tryd.func11, Tryd.ntmps11
  go_wp2_with (first | ((with_reducible refine gC 33 rfl ?_); refine gL (some 13) Tryd.func33 #[.slice A0 l0.length c0, .string a1, .string a2] ?_; (with_reducible refine (spec_keTwo.calls k _ _ l0 a1 a2 true _ ?side1 ?side2 A4.out).mono ?_); (case side1 => repeat (first | exact HR0.out | (with_reducible refine cA ?_ _) | (with_reducible refine cN ?_ _) | (with_reducible refine cD ?_))); (case side2 => exact HC0.out); rintro e w' ⟨rfl, ⟨nd, rfl⟩⟩; refine ⟨_, rfl, ?_⟩) | ((with_reducible refine gC 34 rfl ?_); refine gL (some 18) Tryd.func34 #[.slice A0 l0.length c0, .string a2] ?_; (with_reducible refine (spec_keFar.calls k _ _ l0 a2 t314 t315 _ ?side1 ?side2 A6.out).mono ?_); (case side1 => repeat (first | exact HR0.out | (with_reducible refine cA ?_ _) | (with_reducible refine cN ?_ _) | (with_reducible refine cD ?_))); (case side2 => exact HC0.out); rintro e w10 ⟨v316, v318, rfl, ho0, ho1, hb⟩; refine ⟨_, rfl, ?_⟩; have HO317 := aM (Kd.R_lower ho0 (below_size bQ)); have HO319 := aM (Kd.R_lower ho1 (below_size bQ)); replace HB := aM (below_step bQ hb); (try clear hb); (try clear ho0); (try clear ho1)) | ((with_reducible refine gC 35 rfl ?_); refine gL (some 23) Tryd.func35 #[.string a1] ?_; (with_reducible refine (spec_riNumber.calls k a1 t320 _ A7.out).mono ?_); rintro e w' ⟨rfl, ⟨nd, rfl⟩⟩; refine ⟨_, rfl, ?_⟩; obtain ⟨Ao11, co11, eo11⟩ := Kd.R_slice HO319.out; subst eo11; obtain ⟨ad321, e321, hx321_0, p321, q321⟩ := aZ (Kd.at_int (Kd.R_reads' HO319.out).2.2 t320); cases e321))
  go_ret2
  exact ⟨rfl, bQ⟩
 ·replace c5 := Bool.eq_false_iff.mpr c5
  subst c5
  replace H := jF H
  simp only [Option.some.injEq, Prod.mk.injEq] at H
  obtain ⟨rfl, rfl⟩ := H
  go_enter Tryd.func11, Tryd.ntmps11
  go_wp2_with (first | ((with_reducible refine gC 33 rfl ?_); refine gL (some 13) Tryd.func33 #[.slice A0 l0.length c0, .string a1, .string a2] ?_; (with_reducible refine (spec_keTwo.calls k _ _ l0 a1 a2 false _ ?side1 ?side2 A4.out).mono ?_); (case side1 => repeat (first | exact HR0.out | (with_reducible refine cA ?_ _) | (with_reducible refine cN ?_ _) | (with_reducible refine cD ?_))); (case side2 => exact HC0.out); rintro e w' ⟨rfl, ⟨nd, rfl⟩⟩; refine ⟨_, rfl, ?_⟩))
  go_ret2
  exact ⟨rfl, bQ⟩

/-! ### laws_ySame: function 12 -/
def laws_ySame.l0 : Nat → List Int → List Int → Int → Int → Option (Bool)
 | 0, _, _, _, _ => none
 | k + 1, x0, x1, x12, x13 => if x13 < x12 then (if 0 ≤ x13 then (if x13 < (x0.length : Int) then (if x13 < (x1.length : Int) then (if (rd x0 x13) = (rd x1 x13) then (laws_ySame.l0 k x0 x1 x12 (wrap64 (x13 + 1))) else (some false)) else (none)) else (none)) else (none)) else (some true)
def laws_ySame.f (k : Nat) (l0 : List Int) (l1 : List Int) : Option (Bool) := if (l0.length : Int) = (l1.length : Int) then (laws_ySame.l0 k l0 l1 (l0.length : Int) 0) else (some false)
theorem laws_ySame.mono_l : ∀ k, (∀ y0 y1 y2 y3, LeO (laws_ySame.l0 k y0 y1 y2 y3) (laws_ySame.l0 (k + 1) y0 y1 y2 y3))
 | 0 => fun _ _ _ _ r h => by simp [laws_ySame.l0] at h
 | k + 1 => by
  have ih0 := laws_ySame.mono_l k
  ·intro y0 y1 y2 y3
   unfold laws_ySame.l0
   with_reducible repeat' first | exact ih0 _ _ _ _ | exact LeO.refl _ | exact LeO.none _ | refine LeO.ite ?_ ?_ | refine LeO.bind ?_ (fun _ => ?_)
theorem laws_ySame.mono : ∀ a0 a1 k, LeO (laws_ySame.f k a0 a1) (laws_ySame.f (k + 1) a0 a1) := by
 intro a0 a1 k
 have ih0 := laws_ySame.mono_l k
 unfold laws_ySame.f
 with_reducible repeat' first | exact ih0 _ _ _ _ | exact LeO.refl _ | exact LeO.none _ | refine LeO.ite ?_ ?_ | refine LeO.bind ?_ (fun _ => ?_)
set_option maxHeartbeats 8000000 in
set_option maxRecDepth 100000 in
theorem laws_ySame.calls (k : Nat) (A0 : Option Addr) (c0 : Nat) (l0 : List Int) (A1 : Option Addr) (c1 : Nat) (l1 : List Int) (r : Bool) (w : World) (hr0 : Kd.C (Kd.int .i64) w A0 l0.length l0) (hc0 : l0.length ≤ c0) (hr1 : Kd.C (Kd.int .i64) w A1 l1.length l1) (hc1 : l1.length ≤ c1) (h : laws_ySame.f k l0 l1 = some r) :
  Calls Tryd.prog 12 #[.slice A0 l0.length c0, .slice A1 l1.length c1] w fun e w' => e = .returned (.bool r) ∧ Drawn0 w w' := by
 have HR0 := aM hr0
 have HC0 := aM hc0
 clear hr0 hc0
 have HR1 := aM hr1
 have HC1 := aM hc1
 clear hr1 hc1
 have H := h; clear h; unfold laws_ySame.f at H
 replace H := iO H; obtain ⟨c3, H⟩ | ⟨c3, H⟩ := H
 ·have c3b0 : ((l0.length : Int) == (l1.length : Int)) = true := beq_iff_eq.mpr c3
  have c3b1 : ((l0.length : Int) != (l1.length : Int)) = false := bne_eq_false_iff_eq.mpr c3
  have c3b2 : (l0.length == l1.length) = true := by first | simpa using c3 | (simp at c3 ⊢; omega)
  clear c3
  have H' := aM H
  clear H
  go_enter Tryd.func12, Tryd.ntmps12
  go_wp2
  repeat (go_quiet (fail); try go_wp2)
  go_loopg [13] k (fun kq v13 w' => ∃ (x13_1 : Int), v13 = .int .i64 x13_1 ∧ Aside0 (laws_ySame.l0 kq l0 l1 (l0.length : Int) x13_1 = some r) ∧ Aside0 (kq ≤ k) ∧ Drawn0 w w')
  case atStart => exact ⟨(0), rfl, H', ⟨Nat.le_refl _⟩, by repeat (first | exact Drawn0.refl _ | apply Drawn0.step)⟩
  case round =>
   clear H'
   clear c3b0 c3b1 c3b2
   obtain ⟨x13_1, rfl, HA, HK1, ⟨m1, rfl⟩⟩ := hrel
   cases gk with
   | zero => exact absurd HA.out (by simp [laws_ySame.l0])
   | succ k1 =>
    have H := HA.out
    clear HA
    simp only [laws_ySame.l0] at H
    replace H := iO H; obtain ⟨c4, H⟩ | ⟨c4, H⟩ := H
    ·have c4b0 := decide_eq_true c4
     clear c4
     replace H := iC H; obtain ⟨c5, H⟩ := H
     have c5b0 := decide_eq_true c5
     clear c5
     replace H := iC H; obtain ⟨c6, H⟩ := H
     have c6b0 := decide_eq_true c6
     clear c6
     replace H := iC H; obtain ⟨c7, H⟩ := H
     have c7b0 := decide_eq_true c7
     clear c7
     replace H := iO H; obtain ⟨c8, H⟩ | ⟨c8, H⟩ := H
     ·have c8b0 : ((rd l0 x13_1) == (rd l1 x13_1)) = true := beq_iff_eq.mpr c8
      have c8b1 : ((rd l0 x13_1) != (rd l1 x13_1)) = false := bne_eq_false_iff_eq.mpr c8
      clear c8
      have H' := aM H
      clear H; obtain ⟨ad322, e322, hx322_0, p322, q322⟩ := aZ (Kd.at_int HR0.out x13_1); cases e322; obtain ⟨ad323, e323, hx323_0, p323, q323⟩ := aZ (Kd.at_int HR1.out x13_1); cases e323
      go_wp2
      repeat (go_quiet (fail); try go_wp2)
      go_roundg k1
      case measure => have := HK1.out; omega
      case rel => exact ⟨(wrap64 (x13_1 + 1)), rfl, H', ⟨by have := HK1.out; omega⟩, by repeat (first | exact Drawn0.refl _ | apply Drawn0.step)⟩
     ·have c8b0 : ((rd l0 x13_1) == (rd l1 x13_1)) = false := beq_eq_false_iff_ne.mpr c8
      have c8b1 : ((rd l0 x13_1) != (rd l1 x13_1)) = true := bne_iff_ne.mpr c8
      obtain rfl := Option.some.inj H
      obtain ⟨ad322, e322, hx322_0, p322, q322⟩ := aZ (Kd.at_int HR0.out x13_1); cases e322; obtain ⟨ad323, e323, hx323_0, p323, q323⟩ := aZ (Kd.at_int HR1.out x13_1); cases e323
      go_wp2
      repeat (go_quiet (fail); try go_wp2)
      go_ret
      exact ⟨rfl, by repeat (first | exact Drawn0.refl _ | apply Drawn0.step)⟩
    ·have c4b0 := decide_eq_false c4
     clear c4
     obtain rfl := Option.some.inj H
     go_wp2
     repeat (go_quiet (fail); try go_wp2)
     go_ret
     exact ⟨rfl, by repeat (first | exact Drawn0.refl _ | apply Drawn0.step)⟩
 ·have c3b0 : ((l0.length : Int) == (l1.length : Int)) = false := beq_eq_false_iff_ne.mpr c3
  have c3b1 : ((l0.length : Int) != (l1.length : Int)) = true := bne_iff_ne.mpr c3
  have c3b2 : (l0.length == l1.length) = false := by first | simpa using c3 | (simp at c3 ⊢; omega)
  obtain rfl := Option.some.inj H
  go_enter Tryd.func12, Tryd.ntmps12
  go_wp2
  repeat (go_quiet (fail); try go_wp2)
  go_ret
  exact ⟨rfl, by repeat (first | exact Drawn0.refl _ | apply Drawn0.step)⟩

/-! ### impl_FitsKey: function 13 -/
def impl_FitsKey.f (k : Nat) (l0 : List ByteArray) (a1 : ByteArray) (a2 : Int) : Option (Bool × Bool) := (impl_keyed.f k l0 (([a1] : List ByteArray))).bind fun t327 => (if t327 = true then ((impl_in.f a2 0 (wrap64 ((l0.length : Int) - 1))).bind fun t328 => (if t328 = true then (if 0 ≤ a2 then (if a2 < (l0.length : Int) then ((impl_meets.f k (rdOf ByteArray.empty l0 a2) a1).bind fun t330 => (some (t330, true))) else (none)) else (none)) else (some (false, false)))) else (some (false, false)))
theorem impl_FitsKey.mono : ∀ a0 a1 a2 k, LeO (impl_FitsKey.f k a0 a1 a2) (impl_FitsKey.f (k + 1) a0 a1 a2) := by
 intro a0 a1 a2 k
 unfold impl_FitsKey.f
 with_reducible repeat' first | exact impl_keyed.mono _ _ _ | exact impl_meets.mono _ _ _ | exact LeO.refl _ | exact LeO.none _ | refine LeO.ite ?_ ?_ | refine LeO.bind ?_ (fun _ => ?_)
set_option maxHeartbeats 8000000 in
set_option maxRecDepth 100000 in
theorem impl_FitsKey.calls (k : Nat) (A0 : Option Addr) (c0 : Nat) (l0 : List ByteArray) (a1 : ByteArray) (a2 : Int) (r1 : Bool) (r2 : Bool) (w : World) (hr0 : Kd.C Kd.string w A0 l0.length l0) (hc0 : l0.length ≤ c0) (h : impl_FitsKey.f k l0 a1 a2 = some (r1, r2)) :
  Calls Tryd.prog 13 #[.slice A0 l0.length c0, .string a1, .int .i64 a2] w fun e w' => e = .returned (.tuple #[.bool r1, .bool r2]) ∧ Below w.heap.size w w' := by
 have HR0 := aM hr0
 have HC0 := aM hc0
 clear hr0 hc0
 have HB := aM (Below.refl w.heap.size w)
 have H := h; clear h; unfold impl_FitsKey.f at H
 obtain ⟨y324, Ny324, h_⟩ := yG (α := List ByteArray) (([a1] : List ByteArray)); rw [← h_] at H; clear h_
 replace H := jS H; obtain ⟨t327, A4, H⟩ := H
 by_cases c5 : t327 = true
 ·subst c5
  replace H := jT H
  replace H := jS H; obtain ⟨t328, A6, H⟩ := H
  by_cases c7 : t328 = true
  ·subst c7
   replace H := jT H
   replace H := iC H; obtain ⟨c8, H⟩ := H
   have c8b0 := decide_eq_true c8
   clear c8
   replace H := iN H; obtain ⟨c9b0, H⟩ := H
   replace H := jS H; obtain ⟨t330, A10, H⟩ := H
   simp only [Option.some.injEq, Prod.mk.injEq] at H
   obtain ⟨rfl, rfl⟩ := H
   go_enter Tryd.func13, Tryd.ntmps13
   go_wp2_with (first | ((with_reducible refine gate_dst (N := 10) rfl ?_); (try (refine gate_guard (by rfl) ?_; dsimp only)); refine Kd.R_lit Kd.string _ 9 ?hg (N := 10) ?hd (xs := ([a1] : List ByteArray)) (inner := [.string a1]) (ok := fun _ => True) (okp := fun _ => True) ?hr ?hp (fun _ hk => hk) trivial (Below.refl _ _) (Nat.le_refl _) (by simp) ?_; (case hd => rfl); (case hg => rfl); (case hr => go_simp); (case hp => exact (Reps.one (show Kd.M Kd.string _ _ _ a1 [.string a1] from rfl) (Reps.none _ _))); intro v325 w11 ho12 hb hg_ hnew_; clear hg_ hnew_; rw [← Ny324.out] at ho12; have HO326 := aM (Kd.R_lower ho12 (below_size HB.out)); replace HB := aM (below_step HB.out hb); clear hb ho12; obtain ⟨Ao13, co13, eo13⟩ := Kd.R_slice HO326.out; subst eo13) | ((with_reducible refine gC 29 rfl ?_); refine gL (some 11) Tryd.func29 #[.slice A0 l0.length c0, .slice Ao13 y324.length co13] ?_; (with_reducible refine (impl_keyed.calls k _ _ l0 _ _ y324 true _ ?side1 ?side2 ?side3 ?side4 A4.out).mono ?_); (case side1 => exact Kd.C_below HR0.out HB.out); (case side2 => exact HC0.out); (case side3 => repeat (first | exact (Kd.R_reads' HO326.out).2.2 | (with_reducible refine cA ?_ _) | (with_reducible refine cN ?_ _) | (with_reducible refine cD ?_))); (case side4 => exact (Kd.R_reads' HO326.out).2.1); rintro e w14 ⟨rfl, hb⟩; refine ⟨_, rfl, ?_⟩; replace HO326 := aM (Kd.R_below HO326.out hb); replace HB := aM (below_step HB.out hb); (try clear hb)) | (go_at_call 38; (with_reducible refine (impl_in.calls a2 0 (wrap64 ((l0.length : Int) - 1)) true _ A6.out).mono ?_); rintro e w' ⟨rfl, ⟨nd, rfl⟩⟩; have p329 : 0 ≤ (a2 : Int) := oD; have q329 : a2 < (l0.length : Int) := oD; obtain ⟨ad329, e329, hx329_0⟩ := Kd.at_string HR0.out a2 p329 q329; cases e329; replace hx329_0 := (HB.out.cell (World.block_lt_of_cell? w _ hx329_0)).trans hx329_0; replace p329 := eq_true p329; replace q329 := eq_true q329) | ((with_reducible refine gC 39 rfl ?_); refine gL (some 26) Tryd.func39 #[.string (rdOf ByteArray.empty l0 a2), .string a1] ?_; (with_reducible refine (impl_meets.calls k (rdOf ByteArray.empty l0 a2) a1 t330 _ A10.out).mono ?_); rintro e w' ⟨rfl, ⟨nd, rfl⟩⟩; refine ⟨_, rfl, ?_⟩))
   go_ret2
   exact ⟨rfl, bQ⟩
  ·replace c7 := Bool.eq_false_iff.mpr c7
   subst c7
   replace H := jF H
   simp only [Option.some.injEq, Prod.mk.injEq] at H
   obtain ⟨rfl, rfl⟩ := H
   go_enter Tryd.func13, Tryd.ntmps13
   go_wp2_with (first | ((with_reducible refine gate_dst (N := 10) rfl ?_); (try (refine gate_guard (by rfl) ?_; dsimp only)); refine Kd.R_lit Kd.string _ 9 ?hg (N := 10) ?hd (xs := ([a1] : List ByteArray)) (inner := [.string a1]) (ok := fun _ => True) (okp := fun _ => True) ?hr ?hp (fun _ hk => hk) trivial (Below.refl _ _) (Nat.le_refl _) (by simp) ?_; (case hd => rfl); (case hg => rfl); (case hr => go_simp); (case hp => exact (Reps.one (show Kd.M Kd.string _ _ _ a1 [.string a1] from rfl) (Reps.none _ _))); intro v325 w15 ho16 hb hg_ hnew_; clear hg_ hnew_; rw [← Ny324.out] at ho16; have HO326 := aM (Kd.R_lower ho16 (below_size HB.out)); replace HB := aM (below_step HB.out hb); clear hb ho16; obtain ⟨Ao17, co17, eo17⟩ := Kd.R_slice HO326.out; subst eo17) | ((with_reducible refine gC 29 rfl ?_); refine gL (some 11) Tryd.func29 #[.slice A0 l0.length c0, .slice Ao17 y324.length co17] ?_; (with_reducible refine (impl_keyed.calls k _ _ l0 _ _ y324 true _ ?side1 ?side2 ?side3 ?side4 A4.out).mono ?_); (case side1 => exact Kd.C_below HR0.out HB.out); (case side2 => exact HC0.out); (case side3 => repeat (first | exact (Kd.R_reads' HO326.out).2.2 | (with_reducible refine cA ?_ _) | (with_reducible refine cN ?_ _) | (with_reducible refine cD ?_))); (case side4 => exact (Kd.R_reads' HO326.out).2.1); rintro e w18 ⟨rfl, hb⟩; refine ⟨_, rfl, ?_⟩; replace HO326 := aM (Kd.R_below HO326.out hb); replace HB := aM (below_step HB.out hb); (try clear hb)) | (go_at_call 38; (with_reducible refine (impl_in.calls a2 0 (wrap64 ((l0.length : Int) - 1)) false _ A6.out).mono ?_); rintro e w' ⟨rfl, ⟨nd, rfl⟩⟩))
   go_ret2
   exact ⟨rfl, bQ⟩
 ·replace c5 := Bool.eq_false_iff.mpr c5
  subst c5
  replace H := jF H
  simp only [Option.some.injEq, Prod.mk.injEq] at H
  obtain ⟨rfl, rfl⟩ := H
  go_enter Tryd.func13, Tryd.ntmps13
  go_wp2_with (first | ((with_reducible refine gate_dst (N := 10) rfl ?_); (try (refine gate_guard (by rfl) ?_; dsimp only)); refine Kd.R_lit Kd.string _ 9 ?hg (N := 10) ?hd (xs := ([a1] : List ByteArray)) (inner := [.string a1]) (ok := fun _ => True) (okp := fun _ => True) ?hr ?hp (fun _ hk => hk) trivial (Below.refl _ _) (Nat.le_refl _) (by simp) ?_; (case hd => rfl); (case hg => rfl); (case hr => go_simp); (case hp => exact (Reps.one (show Kd.M Kd.string _ _ _ a1 [.string a1] from rfl) (Reps.none _ _))); intro v325 w19 ho20 hb hg_ hnew_; clear hg_ hnew_; rw [← Ny324.out] at ho20; have HO326 := aM (Kd.R_lower ho20 (below_size HB.out)); replace HB := aM (below_step HB.out hb); clear hb ho20; obtain ⟨Ao21, co21, eo21⟩ := Kd.R_slice HO326.out; subst eo21) | ((with_reducible refine gC 29 rfl ?_); refine gL (some 11) Tryd.func29 #[.slice A0 l0.length c0, .slice Ao21 y324.length co21] ?_; (with_reducible refine (impl_keyed.calls k _ _ l0 _ _ y324 false _ ?side1 ?side2 ?side3 ?side4 A4.out).mono ?_); (case side1 => exact Kd.C_below HR0.out HB.out); (case side2 => exact HC0.out); (case side3 => repeat (first | exact (Kd.R_reads' HO326.out).2.2 | (with_reducible refine cA ?_ _) | (with_reducible refine cN ?_ _) | (with_reducible refine cD ?_))); (case side4 => exact (Kd.R_reads' HO326.out).2.1); rintro e w22 ⟨rfl, hb⟩; refine ⟨_, rfl, ?_⟩; replace HO326 := aM (Kd.R_below HO326.out hb); replace HB := aM (below_step HB.out hb); (try clear hb)))
  go_ret2
  exact ⟨rfl, HB.out⟩

end Go.Proofs.YtdgpkdgpmidaoaaDoor.PK
