-- written by a program of this session's (wip/tools), over the kit's print
import Derived.Test.YtbmbehkdidlolaaGreatDoorPTx0
import Derived.Test.YtbmbehkdidlolaaGreatDoorPTx2
import Derived.Test.YtbmbehkdidlolaaGreatDoorPTx4
import Derived.Test.YtbmbehkdidlolaaGreatDoorPTx7
import Derived.Test.YtbmbehkdidlolaaGreatDoorPTx8
-- squeezed
-- squeezed twice
namespace Go.Proofs.YtbmbehkdidlolaaGreatDoor.PT
open Go.RowKit Go.Proofs.YtbmbehkdidlolaaGreatDoorW.PrintWords Go.Proofs.YtbmbehkdidlolaaGreatDoorW.PrintLast Go.Proofs.YtbmbehkdidlolaaGreatDoorW.PrintMore
attribute [local go_sem] max2_int min2_int max_two min_two max_three min_three max_four min_four   -- for this text's walks alone
set_option linter.unusedVariables false
set_option linter.unusedSimpArgs false

/-! ### spec_keDegrees: function 44 -/
def spec_keDegrees.l0 : Nat → List ByteArray → List Int → Int → Option (List Int)
 | 0, _, _, _ => none
 | k + 1, x0, x3, x4 => if x4 < (shl .i64 1 (x0.length : Int)) then ((spec_riState.f k (x0.length : Int) x4).bind fun t242 => ((spec_keMoves.f k x0 t242).bind fun t243 => (if x3.length < 17592186044416 then (spec_keDegrees.l0 k x0 (x3 ++ [(t243.length : Int)]) (wrap64 (x4 + 1))) else (none)))) else (some x3)
def spec_keDegrees.f (k : Nat) (l0 : List ByteArray) : Option (List Int) := spec_keDegrees.l0 k l0 ([] : List Int) 0
theorem spec_keDegrees.mono_l : ∀ k, (∀ y0 y1 y2, LeO (spec_keDegrees.l0 k y0 y1 y2) (spec_keDegrees.l0 (k + 1) y0 y1 y2))
 | 0 => fun _ _ _ r h => by simp [spec_keDegrees.l0] at h
 | k + 1 => by
  have ih0 := spec_keDegrees.mono_l k
  ·intro y0 y1 y2
   unfold spec_keDegrees.l0
   with_reducible repeat' first | exact ih0 _ _ _ | exact spec_keMoves.mono _ _ _ | exact spec_riState.mono _ _ _ | exact LeO.refl _ | exact LeO.none _ | refine LeO.ite ?_ ?_ | refine LeO.bind ?_ (fun _ => ?_)
theorem spec_keDegrees.mono : ∀ a0 k, LeO (spec_keDegrees.f k a0) (spec_keDegrees.f (k + 1) a0) := by
 intro a0 k
 have ih0 := spec_keDegrees.mono_l k
 unfold spec_keDegrees.f
 with_reducible repeat' first | exact ih0 _ _ _ | exact spec_keMoves.mono _ _ _ | exact spec_riState.mono _ _ _ | exact LeO.refl _ | exact LeO.none _ | refine LeO.ite ?_ ?_ | refine LeO.bind ?_ (fun _ => ?_)
set_option maxHeartbeats 8000000 in
set_option maxRecDepth 100000 in
theorem spec_keDegrees.calls (k : Nat) (A0 : Option Addr) (c0 : Nat) (l0 : List ByteArray) (r : List Int) (w : World) (hr0 : Kd.C Kd.string w A0 l0.length l0) (hc0 : l0.length ≤ c0) (h : spec_keDegrees.f k l0 = some r) :
  Calls Tryz.prog 44 #[.slice A0 l0.length c0] w fun e w' => ∃ v0_ : Value, e = .returned (v0_) ∧ Kd.R (Kd.int .i64) 3 w' w.heap.size (fun _ => True) v0_ r ∧ Below w.heap.size w w' := by
 have HR0 := aM hr0
 have HC0 := aM hc0
 clear hr0 hc0
 have HB := aM (Below.refl w.heap.size w)
 have H := h; clear h; unfold spec_keDegrees.f at H
 have H' := aM H
 clear H
 go_enter Tryz.func44, Tryz.ntmps44
 go_wp2
 go_loopg [3, 4] k (fun kq v3 v4 w' => ∃ (x3_1 : List Int) (x4_1 : Int), v4 = .int .i64 x4_1 ∧ Aside0 (spec_keDegrees.l0 kq l0 x3_1 x4_1 = some r) ∧ Aside0 (kq ≤ k) ∧ Aside0 (Kd.R (Kd.int .i64) 3 w' w.heap.size (fun _ => True) v3 x3_1) ∧ Aside0 (Below w.heap.size w w'))
 case atStart => exact ⟨(([] : List Int)), (0), rfl, H', ⟨Nat.le_refl _⟩, ⟨by first | exact Kd.R_nil _ _ _ _ _ | exact Kd.N_nil _ _ _ _ _ | exact Kd.V_nil _ _ _ _ _ | exact Kd.Q_nil _ _ _ _ _ | exact Kd.S_nil _ _ _ _ _⟩, HB⟩
 case round =>
  clear H'
  obtain ⟨x3_1, x4_1, rfl, HA, HK1, HO_3, HB⟩ := hrel
  cases gk with
  | zero => exact absurd HA.out (by simp [spec_keDegrees.l0])
  | succ k1 =>
   have H := HA.out
   clear HA
   simp only [spec_keDegrees.l0] at H
   obtain ⟨ji2, hji2⟩ : ∃ j_ : Int, (shl .i64 1 (l0.length : Int)) = j_ := ⟨_, rfl⟩
   replace H : (if x4_1 < (ji2) then ((spec_riState.f k1 (l0.length : Int) x4_1).bind fun t242 => ((spec_keMoves.f k1 l0 t242).bind fun t243 => (if x3_1.length < 17592186044416 then (spec_keDegrees.l0 k1 l0 (x3_1 ++ [(t243.length : Int)]) (wrap64 (x4_1 + 1))) else (none)))) else (some x3_1)) = some r := by first | (rw [hji2] at H; exact H) | (simp only [hji2] at H ⊢; exact H)
   have hji2_ : (IntKind.i64.wrap (1 * 2 ^ min (l0.length : Int).toNat 64)) = ji2 := hji2
   have hji2z : (l0.length : Int) ≤ 64 → (IntKind.i64.wrap (1 * 2 ^ (l0.length : Int).toNat)) = ji2 := shl_small hji2
   have hji2p : (IntKind.i64.wrap (1 * 2 ^ min l0.length 64)) = ji2 := hji2_
   have hji2q : (l0.length : Int) ≤ 64 → (IntKind.i64.wrap (1 * 2 ^ l0.length)) = ji2 := hji2z
   have hji2r : (IntKind.i64.wrap (2 ^ min l0.length 64)) = ji2 := by have h_ := hji2p; rw [Int.one_mul] at h_; exact h_
   have hji2s : (l0.length : Int) ≤ 64 → (IntKind.i64.wrap (2 ^ l0.length)) = ji2 := fun hle_ => by have h_ := hji2q hle_; rw [Int.one_mul] at h_; exact h_
   have hji2u : (IntKind.i64.wrap (2 ^ min (l0.length : Int).toNat 64)) = ji2 := by have h_ := hji2_; rw [Int.one_mul] at h_; exact h_
   have hji2v : (l0.length : Int) ≤ 64 → (IntKind.i64.wrap (2 ^ (l0.length : Int).toNat)) = ji2 := fun hle_ => by have h_ := hji2z hle_; rw [Int.one_mul] at h_; exact h_
   have hji2y : (wrap64 (1 * 2 ^ min (l0.length : Int).toNat 64)) = ji2 := (i64_w _).symm.trans hji2_
   have hji2x : (l0.length : Int) ≤ 64 → (wrap64 (1 * 2 ^ (l0.length : Int).toNat)) = ji2 := fun h_ => (i64_w _).symm.trans (hji2z h_)
   replace H := iE H; obtain ⟨c3b0, H⟩ | ⟨c3b0, H⟩ := H
   ·replace H := jS H; obtain ⟨t242, A4, H⟩ := H
    replace H := jS H; obtain ⟨t243, A5, H⟩ := H
    replace H := iC H; obtain ⟨c6, H⟩ := H
    have LMc6 := aM c6
    clear c6
    obtain ⟨y246, Ny246, h_⟩ := yG (α := List Int) (x3_1 ++ [(t243.length : Int)]); rw [← h_] at H; clear h_
    have H' := aM H
    clear H
    go_wp2_with (first | ((with_reducible refine gC 37 rfl ?_); refine gL (some 17) Tryz.func37 #[.int .i64 (l0.length : Int), .int .i64 x4_1] ?_; (with_reducible refine (spec_riState.calls k1 (l0.length : Int) x4_1 t242 _ A4.out).mono ?_); rintro e w' ⟨rfl, ⟨nd, rfl⟩⟩; refine ⟨_, rfl, ?_⟩) | ((with_reducible refine gC 71 rfl ?_); refine gL (some 18) Tryz.func71 #[.slice A0 l0.length c0, .string t242] ?_; (with_reducible refine (spec_keMoves.calls k1 _ _ l0 t242 t243 _ ?side1 ?side2 A5.out).mono ?_); (case side1 => repeat first | exact Kd.C_below HR0.out bQ | refine cA ?_ _ | refine cN ?_ _ | refine cD ?_); (case side2 => exact HC0.out); rintro e w7 ⟨v244, rfl, ho0, hb⟩; refine ⟨_, rfl, ?_⟩; have HO245 := aM (Kd.R_lower (Kd.R_new' ho0 (Kd.R_lt (rQ HO_3.out))) (below_size bQ)); replace HO_3 := aM (Kd.R_elder' (rQ HO_3.out) (Kd.R_base ho0) hb); replace HB := aM (below_step bQ hb); (try clear hb); (try clear ho0); obtain ⟨Ao8, co8, eo8⟩ := Kd.R_slice HO245.out; subst eo8) | ((with_reducible refine gate_builtin (b := .append) (xs := #[.tmp 12, .tmp 20]) rfl ?_); at_builtin; refine Kd.R_append (Kd.int .i64) (w0 := w) w.heap.size rfl (.tmp 12) (.tmp 20) 36 3 (.int .i64 0) 8 rfl Tryz.underlying36 info3 rfl (by decide) (by omega) u3 x3_1 (t243.length : Int) [.int .i64 (t243.length : Int)] (fun k_ => some k_ ≠ (.slice Ao8 t243.length co8 : Value).ownBlock) (fun _ => False) rfl rfl ?aP (fun _ hk => hk.elim) ?aF ?aO ?aB ?aS ?aL ?_; (case aP => exact rfl); (case aB => exact bQ); (case aF => exact (fun k_ hk => Kd.fresh' (Kd.R_lt (rQ HO245.out)) k_ hk)); (case aO => exact (by (with_reducible repeat (first | apply rA | apply rN | apply rD)); exact Kd.R_mono HO_3.out (fun _ hk => hk.2))); (case aS => exact (below_size bQ)); (case aL => have := LMc6.out; omega); intro v247 w9 ho hb hg hat; rw [← Ny246.out] at ho; replace HO245 := aM (Kd.R_after (ok := (fun _ => True)) (rQ HO245.out) hg hat); replace HB := aM (hb); have HO248 := aM (ho); clear ho hb hg hat))
    go_roundg k1
    case measure => have := HK1.out; omega
    case rel => exact ⟨(y246), (wrap64 (x4_1 + 1)), rfl, H', ⟨by have := HK1.out; omega⟩, ⟨Kd.R_mono HO248.out (fun _ hk => trivial)⟩, HB⟩
   ·obtain rfl := Option.some.inj H
    go_wp2
    go_ret
    exact ⟨_, by first | rfl | (simp [errW_none, errW_some] <;> rfl) | (simp only [← hji2]; first | rfl | (simp [errW_none, errW_some] <;> rfl)) | (simp [*, errW_none, errW_some] <;> rfl), HO_3.out, HB.out⟩

/-! ### spec_LinksByKeys: function 10 -/
def spec_LinksByKeys.l0 : Nat → Int → List Int → Int → Int → Option (Int × Bool)
 | 0, _, _, _, _ => none
 | k + 1, x4, x11, x12, x13 => if x13 < x12 then (if 0 ≤ x13 then (if x13 < (x11.length : Int) then (spec_LinksByKeys.l0 k (wrap64 (x4 + (rd x11 x13))) x11 x12 (wrap64 (x13 + 1))) else (none)) else (none)) else (some (wrap64 (Int.tdiv x4 2), true))
def spec_LinksByKeys.f (k : Nat) (l0 : List ByteArray) : Option (Int × Bool) := (spec_keGood.f k l0).bind fun t249 => (if t249 = true then ((spec_keDegrees.f k l0).bind fun t250 => (spec_LinksByKeys.l0 k 0 t250 (t250.length : Int) 0)) else (some (0, false)))
theorem spec_LinksByKeys.mono_l : ∀ k, (∀ y0 y1 y2 y3, LeO (spec_LinksByKeys.l0 k y0 y1 y2 y3) (spec_LinksByKeys.l0 (k + 1) y0 y1 y2 y3))
 | 0 => fun _ _ _ _ r h => by simp [spec_LinksByKeys.l0] at h
 | k + 1 => by
  have ih0 := spec_LinksByKeys.mono_l k
  ·intro y0 y1 y2 y3
   unfold spec_LinksByKeys.l0
   with_reducible repeat' first | exact ih0 _ _ _ _ | exact spec_keDegrees.mono _ _ | exact spec_keGood.mono _ _ | exact LeO.refl _ | exact LeO.none _ | refine LeO.ite ?_ ?_ | refine LeO.bind ?_ (fun _ => ?_)
theorem spec_LinksByKeys.mono : ∀ a0 k, LeO (spec_LinksByKeys.f k a0) (spec_LinksByKeys.f (k + 1) a0) := by
 intro a0 k
 have ih0 := spec_LinksByKeys.mono_l k
 unfold spec_LinksByKeys.f
 with_reducible repeat' first | exact ih0 _ _ _ _ | exact spec_keDegrees.mono _ _ | exact spec_keGood.mono _ _ | exact LeO.refl _ | exact LeO.none _ | refine LeO.ite ?_ ?_ | refine LeO.bind ?_ (fun _ => ?_)
set_option maxHeartbeats 8000000 in
set_option maxRecDepth 100000 in
theorem spec_LinksByKeys.calls (k : Nat) (A0 : Option Addr) (c0 : Nat) (l0 : List ByteArray) (r1 : Int) (r2 : Bool) (w : World) (hr0 : Kd.C Kd.string w A0 l0.length l0) (hc0 : l0.length ≤ c0) (h : spec_LinksByKeys.f k l0 = some (r1, r2)) :
  Calls Tryz.prog 10 #[.slice A0 l0.length c0] w fun e w' => e = .returned (.tuple #[.int .i64 r1, .bool r2]) ∧ Below w.heap.size w w' := by
 have HR0 := aM hr0
 have HC0 := aM hc0
 clear hr0 hc0
 have HB := aM (Below.refl w.heap.size w)
 have H := h; clear h; unfold spec_LinksByKeys.f at H
 replace H := jS H; obtain ⟨t249, A2, H⟩ := H
 by_cases c3 : t249 = true
 ·subst c3
  replace H := jT H
  replace H := jS H; obtain ⟨t250, A4, H⟩ := H
  have H' := aM H
  clear H
  go_enter Tryz.func10, Tryz.ntmps10
  go_wp2_with (first | ((with_reducible refine gC 35 rfl ?_); refine gL (some 8) Tryz.func35 #[.slice A0 l0.length c0] ?_; (with_reducible refine (spec_keGood.calls k _ _ l0 true _ ?side1 ?side2 A2.out).mono ?_); (case side1 => repeat (first | exact HR0.out | (with_reducible refine cA ?_ _) | (with_reducible refine cN ?_ _) | (with_reducible refine cD ?_))); (case side2 => exact HC0.out); rintro e w' ⟨rfl, ⟨nd, rfl⟩⟩; refine ⟨_, rfl, ?_⟩) | ((with_reducible refine gC 44 rfl ?_); refine gL (some 11) Tryz.func44 #[.slice A0 l0.length c0] ?_; (with_reducible refine (spec_keDegrees.calls k _ _ l0 t250 _ ?side1 ?side2 A4.out).mono ?_); (case side1 => repeat (first | exact HR0.out | (with_reducible refine cA ?_ _) | (with_reducible refine cN ?_ _) | (with_reducible refine cD ?_))); (case side2 => exact HC0.out); rintro e w5 ⟨v251, rfl, ho0, hb⟩; refine ⟨_, rfl, ?_⟩; have HO252 := aM (Kd.R_lower ho0 (below_size bQ)); replace HB := aM (below_step bQ hb); (try clear hb); (try clear ho0); obtain ⟨Ao6, co6, eo6⟩ := Kd.R_slice HO252.out; subst eo6))
  go_loopg [4, 13] k (fun kq v4 v13 w' => ∃ (x4_1 : Int) (x13_1 : Int), v4 = .int .i64 x4_1 ∧ v13 = .int .i64 x13_1 ∧ Aside0 (spec_LinksByKeys.l0 kq x4_1 t250 (t250.length : Int) x13_1 = some (r1, r2)) ∧ Aside0 (kq ≤ k) ∧ Aside0 (Kd.R (Kd.int .i64) 3 w' w.heap.size (fun _ => True) (.slice Ao6 t250.length co6) t250) ∧ Aside0 (Below w.heap.size w w'))
  case atStart => exact ⟨(0), (0), rfl, rfl, H', ⟨Nat.le_refl _⟩, HO252, HB⟩
  case round =>
   clear H'
   obtain ⟨x4_1, x13_1, rfl, rfl, HA, HK1, HO_11, HB⟩ := hrel
   cases gk with
   | zero => exact absurd HA.out (by simp [spec_LinksByKeys.l0])
   | succ k1 =>
    have H := HA.out
    clear HA
    simp only [spec_LinksByKeys.l0] at H
    replace H := iO H; obtain ⟨c7, H⟩ | ⟨c7, H⟩ := H
    ·have c7b0 := decide_eq_true c7
     clear c7
     replace H := iC H; obtain ⟨c8, H⟩ := H
     have c8b0 := decide_eq_true c8
     clear c8
     replace H := iN H; obtain ⟨c9b0, H⟩ := H
     have H' := aM H
     clear H; obtain ⟨ad253, e253, hx253_0, p253, q253⟩ := aZ (Kd.at_int (Kd.R_reads' HO_11.out).2.2 x13_1); cases e253
     go_wp2
     go_roundg k1
     case measure => have := HK1.out; omega
     case rel => exact ⟨(wrap64 (x4_1 + (rd t250 x13_1))), (wrap64 (x13_1 + 1)), rfl, rfl, H', ⟨by have := HK1.out; omega⟩, HO_11, HB⟩
    ·have c7b0 := decide_eq_false c7
     clear c7
     simp only [Option.some.injEq, Prod.mk.injEq] at H
     obtain ⟨rfl, rfl⟩ := H
     go_wp2
     go_ret2
     exact ⟨rfl, HB.out⟩
 ·replace c3 := Bool.eq_false_iff.mpr c3
  subst c3
  replace H := jF H
  simp only [Option.some.injEq, Prod.mk.injEq] at H
  obtain ⟨rfl, rfl⟩ := H
  go_enter Tryz.func10, Tryz.ntmps10
  go_wp2_with (first | ((with_reducible refine gC 35 rfl ?_); refine gL (some 8) Tryz.func35 #[.slice A0 l0.length c0] ?_; (with_reducible refine (spec_keGood.calls k _ _ l0 false _ ?side1 ?side2 A2.out).mono ?_); (case side1 => repeat (first | exact HR0.out | (with_reducible refine cA ?_ _) | (with_reducible refine cN ?_ _) | (with_reducible refine cD ?_))); (case side2 => exact HC0.out); rintro e w' ⟨rfl, ⟨nd, rfl⟩⟩; refine ⟨_, rfl, ?_⟩))
  go_ret2
  exact ⟨rfl, bQ⟩

/-! ### impl_IsLineOfStates: function 11 -/
def impl_IsLineOfStates.l0 : Nat → Int → Int → List (List Int) → Int → Int → Option (Bool × Bool)
 | 0, _, _, _, _, _ => none
 | k + 1, x4, x6, x17, x18, x19 => if x19 < x18 then (if 0 ≤ x19 then (if x19 < (x17.length : Int) then (if ((rd_L2 x17 x19).length : Int) > 2 then (some (false, true)) else (if ((rd_L2 x17 x19).length : Int) = 1 then (impl_IsLineOfStates.l0 k x4 (wrap64 (x6 + 1)) x17 x18 (wrap64 (x19 + 1))) else (impl_IsLineOfStates.l0 k x4 x6 x17 x18 (wrap64 (x19 + 1))))) else (none)) else (none)) else (if x4 = 1 then (some ((x6 == 2), true)) else (some (false, true)))
def impl_IsLineOfStates.f (k : Nat) (l0 : List ByteArray) : Option (Bool × Bool) := (impl_PartsByKeys.f k l0).bind fun bt254 => (if bt254.2 = true then ((impl_keyedLinks.f k l0).bind fun t256 => (impl_IsLineOfStates.l0 k bt254.1 0 t256 (t256.length : Int) 0)) else (some (false, false)))
theorem impl_IsLineOfStates.mono_l : ∀ k, (∀ y0 y1 y2 y3 y4, LeO (impl_IsLineOfStates.l0 k y0 y1 y2 y3 y4) (impl_IsLineOfStates.l0 (k + 1) y0 y1 y2 y3 y4))
 | 0 => fun _ _ _ _ _ r h => by simp [impl_IsLineOfStates.l0] at h
 | k + 1 => by
  have ih0 := impl_IsLineOfStates.mono_l k
  ·intro y0 y1 y2 y3 y4
   unfold impl_IsLineOfStates.l0
   with_reducible repeat' first | exact ih0 _ _ _ _ _ | exact impl_PartsByKeys.mono _ _ | exact impl_keyedLinks.mono _ _ | exact LeO.refl _ | exact LeO.none _ | refine LeO.ite ?_ ?_ | refine LeO.bind ?_ (fun _ => ?_)
theorem impl_IsLineOfStates.mono : ∀ a0 k, LeO (impl_IsLineOfStates.f k a0) (impl_IsLineOfStates.f (k + 1) a0) := by
 intro a0 k
 have ih0 := impl_IsLineOfStates.mono_l k
 unfold impl_IsLineOfStates.f
 with_reducible repeat' first | exact ih0 _ _ _ _ _ | exact impl_PartsByKeys.mono _ _ | exact impl_keyedLinks.mono _ _ | exact LeO.refl _ | exact LeO.none _ | refine LeO.ite ?_ ?_ | refine LeO.bind ?_ (fun _ => ?_)
set_option maxHeartbeats 8000000 in
set_option maxRecDepth 100000 in
theorem impl_IsLineOfStates.calls (k : Nat) (A0 : Option Addr) (c0 : Nat) (l0 : List ByteArray) (r1 : Bool) (r2 : Bool) (w : World) (hr0 : Kd.C Kd.string w A0 l0.length l0) (hc0 : l0.length ≤ c0) (h : impl_IsLineOfStates.f k l0 = some (r1, r2)) :
  Calls Tryz.prog 11 #[.slice A0 l0.length c0] w fun e w' => e = .returned (.tuple #[.bool r1, .bool r2]) ∧ Below w.heap.size w w' := by
 have HR0 := aM hr0
 have HC0 := aM hc0
 clear hr0 hc0
 have HB := aM (Below.refl w.heap.size w)
 have H := h; clear h; unfold impl_IsLineOfStates.f at H
 replace H := jS H; obtain ⟨⟨t254, t255⟩, A2, H⟩ := H; dsimp only at H
 by_cases c3 : t255 = true
 ·subst c3
  replace H := jT H
  replace H := jS H; obtain ⟨t256, A4, H⟩ := H
  have H' := aM H
  clear H
  go_enter Tryz.func11, Tryz.ntmps11
  go_wp2_with (first | ((with_reducible refine gC 7 rfl ?_); refine gL (some 11) Tryz.func7 #[.slice A0 l0.length c0] ?_; (with_reducible refine (impl_PartsByKeys.calls k _ _ l0 t254 true _ ?side1 ?side2 A2.out).mono ?_); (case side1 => repeat (first | exact HR0.out | (with_reducible refine cA ?_ _) | (with_reducible refine cN ?_ _) | (with_reducible refine cD ?_))); (case side2 => exact HC0.out); rintro e w5 ⟨rfl, hb⟩; refine ⟨_, rfl, ?_⟩; replace HB := aM (below_step HB.out hb); (try clear hb)) | ((with_reducible refine gC 33 rfl ?_); refine gL (some 17) Tryz.func33 #[.slice A0 l0.length c0] ?_; (with_reducible refine (impl_keyedLinks.calls k _ _ l0 t256 _ ?side1 ?side2 A4.out).mono ?_); (case side1 => exact Kd.C_below HR0.out HB.out); (case side2 => exact HC0.out); rintro e w6 ⟨v257, rfl, ho0, hb⟩; refine ⟨_, rfl, ?_⟩; have HO258 := aM (Kd.S_lower ho0 (below_size HB.out)); replace HB := aM (below_step HB.out hb); (try clear hb); (try clear ho0); obtain ⟨Ao7, co7, eo7⟩ := Kd.S_slice HO258.out; subst eo7))
  go_loopg [6, 19] k (fun kq v6 v19 w' => ∃ (x6_1 : Int) (x19_1 : Int), v6 = .int .i64 x6_1 ∧ v19 = .int .i64 x19_1 ∧ Aside0 (impl_IsLineOfStates.l0 kq t254 x6_1 t256 (t256.length : Int) x19_1 = some (r1, r2)) ∧ Aside0 (kq ≤ k) ∧ Aside0 (Kd.S (Kd.slice 3 (Kd.int .i64)) 36 w' w.heap.size (fun _ => True) (.slice Ao7 t256.length co7) t256) ∧ Aside0 (Below w.heap.size w w'))
  case atStart => exact ⟨(0), (0), rfl, rfl, H', ⟨Nat.le_refl _⟩, ⟨by (with_reducible repeat (first | apply Kd.S_alloc | apply Kd.S_drewN | apply Kd.S_drew)); exact HO258.out⟩, HB⟩
  case round =>
   clear H'
   obtain ⟨x6_1, x19_1, rfl, rfl, HA, HK1, HO_17, HB⟩ := hrel
   cases gk with
   | zero => exact absurd HA.out (by simp [impl_IsLineOfStates.l0])
   | succ k1 =>
    have H := HA.out
    clear HA
    simp only [impl_IsLineOfStates.l0] at H
    replace H := iO H; obtain ⟨c8, H⟩ | ⟨c8, H⟩ := H
    ·have c8b0 := decide_eq_true c8
     clear c8
     replace H := iC H; obtain ⟨c9, H⟩ := H
     have c9b0 := decide_eq_true c9
     clear c9
     replace H := iC H; obtain ⟨c10, H⟩ := H
     have c10b0 := decide_eq_true c10
     clear c10
     replace H := iO H; obtain ⟨c11, H⟩ | ⟨c11, H⟩ := H
     ·have c11b0 := decide_eq_true c11
      have c11b1 : decide (2 < (rd_L2 t256 x19_1).length) = true := decide_eq_true (by omega)
      clear c11
      simp only [Option.some.injEq, Prod.mk.injEq] at H
      obtain ⟨rfl, rfl⟩ := H
      have p259 : 0 ≤ (x19_1 : Int) := oD; have q259 : x19_1 < (t256.length : Int) := oD
      obtain ⟨ad259, A259_0, c259_0, e259, hx259_0, hl259_0, hi259_0⟩ := at_L2 (Kd.S_reads' HO_17.out).2.2 x19_1 p259 q259
      cases e259
      obtain ⟨ce259, hce259, hMe259, hcc259⟩ := Kd.S_get HO_17.out [] x19_1 p259 (by first | exact q259 | exact oD | (have e_ := (Kd.S_reads' HO_17.out).1; omega))
      obtain ⟨ve259_0, rfl, ge259_0⟩ := hMe259
      have hv259_0 := hcc259 0 _ rfl
      rw [Nat.add_zero, show ((Kd.slice 3 (Kd.int .i64))).sz = 1 from rfl, Nat.mul_one] at hv259_0
      replace hv259_0 := Option.some.inj (hv259_0.symm.trans hx259_0)
      rw [hv259_0] at ge259_0
      have HL259_0 := aM (show Kd.R (Kd.int .i64) 3 _ _ _ _ (rd_L2 t256 x19_1) from ge259_0)
      clear hv259_0 ge259_0; clear hcc259 hce259
      have HR259_0 := aM hi259_0
      have HC259_0 := aM hl259_0
      clear hi259_0 hl259_0; replace p259 := eq_true p259; replace q259 := eq_true q259
      go_wp2
      go_ret2
      exact ⟨rfl, HB.out⟩
     ·have c11b0 := decide_eq_false c11
      have c11b1 : decide (2 < (rd_L2 t256 x19_1).length) = false := decide_eq_false (by omega)
      clear c11
      replace H := iO H; obtain ⟨c12, H⟩ | ⟨c12, H⟩ := H
      ·have c12b0 : (((rd_L2 t256 x19_1).length : Int) == 1) = true := beq_iff_eq.mpr c12
       have c12b1 : (((rd_L2 t256 x19_1).length : Int) != 1) = false := bne_eq_false_iff_eq.mpr c12
       clear c12
       have H' := aM H
       clear H; have p259 : 0 ≤ (x19_1 : Int) := oD; have q259 : x19_1 < (t256.length : Int) := oD
       obtain ⟨ad259, A259_0, c259_0, e259, hx259_0, hl259_0, hi259_0⟩ := at_L2 (Kd.S_reads' HO_17.out).2.2 x19_1 p259 q259
       cases e259
       obtain ⟨ce259, hce259, hMe259, hcc259⟩ := Kd.S_get HO_17.out [] x19_1 p259 (by first | exact q259 | exact oD | (have e_ := (Kd.S_reads' HO_17.out).1; omega))
       obtain ⟨ve259_0, rfl, ge259_0⟩ := hMe259
       have hv259_0 := hcc259 0 _ rfl
       rw [Nat.add_zero, show ((Kd.slice 3 (Kd.int .i64))).sz = 1 from rfl, Nat.mul_one] at hv259_0
       replace hv259_0 := Option.some.inj (hv259_0.symm.trans hx259_0)
       rw [hv259_0] at ge259_0
       have HL259_0 := aM (show Kd.R (Kd.int .i64) 3 _ _ _ _ (rd_L2 t256 x19_1) from ge259_0)
       clear hv259_0 ge259_0; clear hcc259 hce259
       have HR259_0 := aM hi259_0
       have HC259_0 := aM hl259_0
       clear hi259_0 hl259_0; replace p259 := eq_true p259; replace q259 := eq_true q259
       go_wp2
       go_roundg k1
       case measure => have := HK1.out; omega
       case rel => exact ⟨(wrap64 (x6_1 + 1)), (wrap64 (x19_1 + 1)), rfl, rfl, H', ⟨by have := HK1.out; omega⟩, ⟨by (with_reducible repeat (first | apply Kd.S_alloc | apply Kd.S_drewN | apply Kd.S_drew)); exact HO_17.out⟩, HB⟩
      ·have c12b0 : (((rd_L2 t256 x19_1).length : Int) == 1) = false := beq_eq_false_iff_ne.mpr c12
       have c12b1 : (((rd_L2 t256 x19_1).length : Int) != 1) = true := bne_iff_ne.mpr c12
       have H' := aM H
       clear H; have p259 : 0 ≤ (x19_1 : Int) := oD; have q259 : x19_1 < (t256.length : Int) := oD
       obtain ⟨ad259, A259_0, c259_0, e259, hx259_0, hl259_0, hi259_0⟩ := at_L2 (Kd.S_reads' HO_17.out).2.2 x19_1 p259 q259
       cases e259
       obtain ⟨ce259, hce259, hMe259, hcc259⟩ := Kd.S_get HO_17.out [] x19_1 p259 (by first | exact q259 | exact oD | (have e_ := (Kd.S_reads' HO_17.out).1; omega))
       obtain ⟨ve259_0, rfl, ge259_0⟩ := hMe259
       have hv259_0 := hcc259 0 _ rfl
       rw [Nat.add_zero, show ((Kd.slice 3 (Kd.int .i64))).sz = 1 from rfl, Nat.mul_one] at hv259_0
       replace hv259_0 := Option.some.inj (hv259_0.symm.trans hx259_0)
       rw [hv259_0] at ge259_0
       have HL259_0 := aM (show Kd.R (Kd.int .i64) 3 _ _ _ _ (rd_L2 t256 x19_1) from ge259_0)
       clear hv259_0 ge259_0; clear hcc259 hce259
       have HR259_0 := aM hi259_0
       have HC259_0 := aM hl259_0
       clear hi259_0 hl259_0; replace p259 := eq_true p259; replace q259 := eq_true q259
       go_wp2
       go_roundg k1
       case measure => have := HK1.out; omega
       case rel => exact ⟨(x6_1), (wrap64 (x19_1 + 1)), rfl, rfl, H', ⟨by have := HK1.out; omega⟩, ⟨by (with_reducible repeat (first | apply Kd.S_alloc | apply Kd.S_drewN | apply Kd.S_drew)); exact HO_17.out⟩, HB⟩
    ·have c8b0 := decide_eq_false c8
     clear c8
     replace H := iO H; obtain ⟨c13, H⟩ | ⟨c13, H⟩ := H
     ·have c13b0 : (t254 == 1) = true := beq_iff_eq.mpr c13
      have c13b1 : (t254 != 1) = false := bne_eq_false_iff_eq.mpr c13
      clear c13
      simp only [Option.some.injEq, Prod.mk.injEq] at H
      obtain ⟨rfl, rfl⟩ := H
      go_wp2
      go_ret2
      exact ⟨rfl, HB.out⟩
     ·have c13b0 : (t254 == 1) = false := beq_eq_false_iff_ne.mpr c13
      have c13b1 : (t254 != 1) = true := bne_iff_ne.mpr c13
      simp only [Option.some.injEq, Prod.mk.injEq] at H
      obtain ⟨rfl, rfl⟩ := H
      go_wp2
      go_ret2
      exact ⟨rfl, HB.out⟩
 ·replace c3 := Bool.eq_false_iff.mpr c3
  subst c3
  replace H := jF H
  simp only [Option.some.injEq, Prod.mk.injEq] at H
  obtain ⟨rfl, rfl⟩ := H
  go_enter Tryz.func11, Tryz.ntmps11
  go_wp2_with (first | ((with_reducible refine gC 7 rfl ?_); refine gL (some 11) Tryz.func7 #[.slice A0 l0.length c0] ?_; (with_reducible refine (impl_PartsByKeys.calls k _ _ l0 t254 false _ ?side1 ?side2 A2.out).mono ?_); (case side1 => repeat (first | exact HR0.out | (with_reducible refine cA ?_ _) | (with_reducible refine cN ?_ _) | (with_reducible refine cD ?_))); (case side2 => exact HC0.out); rintro e w14 ⟨rfl, hb⟩; refine ⟨_, rfl, ?_⟩; replace HB := aM (below_step HB.out hb); (try clear hb)))
  go_ret2
  exact ⟨rfl, HB.out⟩

/-! ### spec_IsLineOfStates: function 12 -/
def spec_IsLineOfStates.l0 : Nat → List ByteArray → Int → List Int → Int → Int → Option (Bool × Bool)
 | 0, _, _, _, _, _ => none
 | k + 1, x0, x4, x11, x12, x13 => if x13 < x12 then (if 0 ≤ x13 then (if x13 < (x11.length : Int) then (if (rd x11 x13) > 2 then (some (false, true)) else (if (rd x11 x13) = 1 then (spec_IsLineOfStates.l0 k x0 (wrap64 (x4 + 1)) x11 x12 (wrap64 (x13 + 1))) else (spec_IsLineOfStates.l0 k x0 x4 x11 x12 (wrap64 (x13 + 1))))) else (none)) else (none)) else (if x4 = 2 then ((spec_keParts.f k x0).bind fun t264 => (some ((t264 == 1), true))) else (some (false, true)))
def spec_IsLineOfStates.f (k : Nat) (l0 : List ByteArray) : Option (Bool × Bool) := (spec_keGood.f k l0).bind fun t260 => (if t260 = true then ((spec_keDegrees.f k l0).bind fun t261 => (spec_IsLineOfStates.l0 k l0 0 t261 (t261.length : Int) 0)) else (some (false, false)))
theorem spec_IsLineOfStates.mono_l : ∀ k, (∀ y0 y1 y2 y3 y4, LeO (spec_IsLineOfStates.l0 k y0 y1 y2 y3 y4) (spec_IsLineOfStates.l0 (k + 1) y0 y1 y2 y3 y4))
 | 0 => fun _ _ _ _ _ r h => by simp [spec_IsLineOfStates.l0] at h
 | k + 1 => by
  have ih0 := spec_IsLineOfStates.mono_l k
  ·intro y0 y1 y2 y3 y4
   unfold spec_IsLineOfStates.l0
   with_reducible repeat' first | exact ih0 _ _ _ _ _ | exact spec_keDegrees.mono _ _ | exact spec_keGood.mono _ _ | exact spec_keParts.mono _ _ | exact LeO.refl _ | exact LeO.none _ | refine LeO.ite ?_ ?_ | refine LeO.bind ?_ (fun _ => ?_)
theorem spec_IsLineOfStates.mono : ∀ a0 k, LeO (spec_IsLineOfStates.f k a0) (spec_IsLineOfStates.f (k + 1) a0) := by
 intro a0 k
 have ih0 := spec_IsLineOfStates.mono_l k
 unfold spec_IsLineOfStates.f
 with_reducible repeat' first | exact ih0 _ _ _ _ _ | exact spec_keDegrees.mono _ _ | exact spec_keGood.mono _ _ | exact spec_keParts.mono _ _ | exact LeO.refl _ | exact LeO.none _ | refine LeO.ite ?_ ?_ | refine LeO.bind ?_ (fun _ => ?_)
set_option maxHeartbeats 8000000 in
set_option maxRecDepth 100000 in
theorem spec_IsLineOfStates.calls (k : Nat) (A0 : Option Addr) (c0 : Nat) (l0 : List ByteArray) (r1 : Bool) (r2 : Bool) (w : World) (hr0 : Kd.C Kd.string w A0 l0.length l0) (hc0 : l0.length ≤ c0) (h : spec_IsLineOfStates.f k l0 = some (r1, r2)) :
  Calls Tryz.prog 12 #[.slice A0 l0.length c0] w fun e w' => e = .returned (.tuple #[.bool r1, .bool r2]) ∧ Below w.heap.size w w' := by
 have HR0 := aM hr0
 have HC0 := aM hc0
 clear hr0 hc0
 have HB := aM (Below.refl w.heap.size w)
 have H := h; clear h; unfold spec_IsLineOfStates.f at H
 replace H := jS H; obtain ⟨t260, A2, H⟩ := H
 by_cases c3 : t260 = true
 ·subst c3
  replace H := jT H
  replace H := jS H; obtain ⟨t261, A4, H⟩ := H
  have H' := aM H
  clear H
  go_enter Tryz.func12, Tryz.ntmps12
  go_wp2_with (first | ((with_reducible refine gC 35 rfl ?_); refine gL (some 8) Tryz.func35 #[.slice A0 l0.length c0] ?_; (with_reducible refine (spec_keGood.calls k _ _ l0 true _ ?side1 ?side2 A2.out).mono ?_); (case side1 => repeat (first | exact HR0.out | (with_reducible refine cA ?_ _) | (with_reducible refine cN ?_ _) | (with_reducible refine cD ?_))); (case side2 => exact HC0.out); rintro e w' ⟨rfl, ⟨nd, rfl⟩⟩; refine ⟨_, rfl, ?_⟩) | ((with_reducible refine gC 44 rfl ?_); refine gL (some 11) Tryz.func44 #[.slice A0 l0.length c0] ?_; (with_reducible refine (spec_keDegrees.calls k _ _ l0 t261 _ ?side1 ?side2 A4.out).mono ?_); (case side1 => repeat (first | exact HR0.out | (with_reducible refine cA ?_ _) | (with_reducible refine cN ?_ _) | (with_reducible refine cD ?_))); (case side2 => exact HC0.out); rintro e w5 ⟨v262, rfl, ho0, hb⟩; refine ⟨_, rfl, ?_⟩; have HO263 := aM (Kd.R_lower ho0 (below_size bQ)); replace HB := aM (below_step bQ hb); (try clear hb); (try clear ho0); obtain ⟨Ao6, co6, eo6⟩ := Kd.R_slice HO263.out; subst eo6))
  go_loopg [4, 13] k (fun kq v4 v13 w' => ∃ (x4_1 : Int) (x13_1 : Int), v4 = .int .i64 x4_1 ∧ v13 = .int .i64 x13_1 ∧ Aside0 (spec_IsLineOfStates.l0 kq l0 x4_1 t261 (t261.length : Int) x13_1 = some (r1, r2)) ∧ Aside0 (kq ≤ k) ∧ Aside0 (Kd.R (Kd.int .i64) 3 w' w.heap.size (fun _ => True) (.slice Ao6 t261.length co6) t261) ∧ Aside0 (Below w.heap.size w w'))
  case atStart => exact ⟨(0), (0), rfl, rfl, H', ⟨Nat.le_refl _⟩, HO263, HB⟩
  case round =>
   clear H'
   obtain ⟨x4_1, x13_1, rfl, rfl, HA, HK1, HO_11, HB⟩ := hrel
   cases gk with
   | zero => exact absurd HA.out (by simp [spec_IsLineOfStates.l0])
   | succ k1 =>
    have H := HA.out
    clear HA
    simp only [spec_IsLineOfStates.l0] at H
    replace H := iO H; obtain ⟨c7, H⟩ | ⟨c7, H⟩ := H
    ·have c7b0 := decide_eq_true c7
     clear c7
     replace H := iC H; obtain ⟨c8, H⟩ := H
     have c8b0 := decide_eq_true c8
     clear c8
     replace H := iC H; obtain ⟨c9, H⟩ := H
     have c9b0 := decide_eq_true c9
     clear c9
     replace H := iO H; obtain ⟨c10, H⟩ | ⟨c10, H⟩ := H
     ·have c10b0 := decide_eq_true c10
      clear c10
      simp only [Option.some.injEq, Prod.mk.injEq] at H
      obtain ⟨rfl, rfl⟩ := H
      obtain ⟨ad265, e265, hx265_0, p265, q265⟩ := aZ (Kd.at_int (Kd.R_reads' HO_11.out).2.2 x13_1); cases e265
      go_wp2
      go_ret2
      exact ⟨rfl, HB.out⟩
     ·have c10b0 := decide_eq_false c10
      clear c10
      replace H := iO H; obtain ⟨c11, H⟩ | ⟨c11, H⟩ := H
      ·have c11b0 : ((rd t261 x13_1) == 1) = true := beq_iff_eq.mpr c11
       have c11b1 : ((rd t261 x13_1) != 1) = false := bne_eq_false_iff_eq.mpr c11
       clear c11
       have H' := aM H
       clear H; obtain ⟨ad265, e265, hx265_0, p265, q265⟩ := aZ (Kd.at_int (Kd.R_reads' HO_11.out).2.2 x13_1); cases e265
       go_wp2
       go_roundg k1
       case measure => have := HK1.out; omega
       case rel => exact ⟨(wrap64 (x4_1 + 1)), (wrap64 (x13_1 + 1)), rfl, rfl, H', ⟨by have := HK1.out; omega⟩, HO_11, HB⟩
      ·have c11b0 : ((rd t261 x13_1) == 1) = false := beq_eq_false_iff_ne.mpr c11
       have c11b1 : ((rd t261 x13_1) != 1) = true := bne_iff_ne.mpr c11
       have H' := aM H
       clear H; obtain ⟨ad265, e265, hx265_0, p265, q265⟩ := aZ (Kd.at_int (Kd.R_reads' HO_11.out).2.2 x13_1); cases e265
       go_wp2
       go_roundg k1
       case measure => have := HK1.out; omega
       case rel => exact ⟨(x4_1), (wrap64 (x13_1 + 1)), rfl, rfl, H', ⟨by have := HK1.out; omega⟩, HO_11, HB⟩
    ·have c7b0 := decide_eq_false c7
     clear c7
     replace H := iO H; obtain ⟨c12, H⟩ | ⟨c12, H⟩ := H
     ·have c12b0 : (x4_1 == 2) = true := beq_iff_eq.mpr c12
      have c12b1 : (x4_1 != 2) = false := bne_eq_false_iff_eq.mpr c12
      clear c12
      replace H := jS H; obtain ⟨t264, A13, H⟩ := H
      simp only [Option.some.injEq, Prod.mk.injEq] at H
      obtain ⟨rfl, rfl⟩ := H
      go_wp2_with (first | (go_at_call 43; (with_reducible refine (spec_keParts.calls k1 _ _ l0 t264 _ ?side1 ?side2 A13.out).mono ?_); (case side1 => exact Kd.C_below HR0.out HB.out); (case side2 => exact HC0.out); rintro e w14 ⟨rfl, hb⟩; replace HO_11 := aM (Kd.R_below HO_11.out hb); replace HB := aM (below_step HB.out hb); (try clear hb)))
      go_ret2
      exact ⟨rfl, HB.out⟩
     ·have c12b0 : (x4_1 == 2) = false := beq_eq_false_iff_ne.mpr c12
      have c12b1 : (x4_1 != 2) = true := bne_iff_ne.mpr c12
      simp only [Option.some.injEq, Prod.mk.injEq] at H
      obtain ⟨rfl, rfl⟩ := H
      go_wp2
      go_ret2
      exact ⟨rfl, HB.out⟩
 ·replace c3 := Bool.eq_false_iff.mpr c3
  subst c3
  replace H := jF H
  simp only [Option.some.injEq, Prod.mk.injEq] at H
  obtain ⟨rfl, rfl⟩ := H
  go_enter Tryz.func12, Tryz.ntmps12
  go_wp2_with (first | ((with_reducible refine gC 35 rfl ?_); refine gL (some 8) Tryz.func35 #[.slice A0 l0.length c0] ?_; (with_reducible refine (spec_keGood.calls k _ _ l0 false _ ?side1 ?side2 A2.out).mono ?_); (case side1 => repeat (first | exact HR0.out | (with_reducible refine cA ?_ _) | (with_reducible refine cN ?_ _) | (with_reducible refine cD ?_))); (case side2 => exact HC0.out); rintro e w' ⟨rfl, ⟨nd, rfl⟩⟩; refine ⟨_, rfl, ?_⟩))
  go_ret2
  exact ⟨rfl, bQ⟩

end Go.Proofs.YtbmbehkdidlolaaGreatDoor.PT
