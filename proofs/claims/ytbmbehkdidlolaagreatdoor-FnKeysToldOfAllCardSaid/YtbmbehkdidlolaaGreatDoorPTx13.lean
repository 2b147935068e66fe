-- written by a program of this session's (wip/tools), over the kit's print
import Derived.Test.YtbmbehkdidlolaaGreatDoorPTx0
import Derived.Test.YtbmbehkdidlolaaGreatDoorPTx1
-- squeezed
-- squeezed twice
namespace Go.Proofs.YtbmbehkdidlolaaGreatDoor.PT
open Go.RowKit Go.Proofs.YtbmbehkdidlolaaGreatDoorW.PrintWords Go.Proofs.YtbmbehkdidlolaaGreatDoorW.PrintLast Go.Proofs.YtbmbehkdidlolaaGreatDoorW.PrintMore
attribute [local go_sem] max2_int min2_int max_two min_two max_three min_three max_four min_four   -- for this text's walks alone
set_option linter.unusedVariables false
set_option linter.unusedSimpArgs false

/-! ### impl_state: function 58 -/
def impl_state.l0 : Nat → Int → List Int → Int → Int → Option (ByteArray)
 | 0, _, _, _, _ => none
 | k + 1, x5, x6, x15, x16 => if x16 < x15 then (if 0 ≤ x16 then (if x16 < (x6.length : Int) then (impl_state.l0 k x5 (x6.set (x16 : Int).toNat ((48 + ((Go.bits .and .i64 (shr .i64 x5 x16) 1) % 256)) % 256)) x15 (wrap64 (x16 + 1))) else (none)) else (none)) else (some (strOfNums x6))
def impl_state.f (k : Nat) (a0 : Int) (a1 : Int) : Option (ByteArray) := if 0 ≤ a0 then (if (a0 : Int).toNat ≤ 281474976710656 then ((some (List.replicate (a0 : Int).toNat 0 : List Int)).bind fun y340 => (impl_state.l0 k (Go.bits .xor .i64 a1 (wrap64 (Int.tdiv a1 2))) y340 (y340.length : Int) 0)) else (none)) else (none)
theorem impl_state.mono_l : ∀ k, (∀ y0 y1 y2 y3, LeO (impl_state.l0 k y0 y1 y2 y3) (impl_state.l0 (k + 1) y0 y1 y2 y3))
 | 0 => fun _ _ _ _ r h => by simp [impl_state.l0] at h
 | k + 1 => by
  have ih0 := impl_state.mono_l k
  ·intro y0 y1 y2 y3
   unfold impl_state.l0
   with_reducible repeat' first | exact ih0 _ _ _ _ | exact LeO.refl _ | exact LeO.none _ | refine LeO.ite ?_ ?_ | refine LeO.bind ?_ (fun _ => ?_)
theorem impl_state.mono : ∀ a0 a1 k, LeO (impl_state.f k a0 a1) (impl_state.f (k + 1) a0 a1) := by
 intro a0 a1 k
 have ih0 := impl_state.mono_l k
 unfold impl_state.f
 with_reducible repeat' first | exact ih0 _ _ _ _ | exact LeO.refl _ | exact LeO.none _ | refine LeO.ite ?_ ?_ | refine LeO.bind ?_ (fun _ => ?_)
set_option maxHeartbeats 8000000 in
set_option maxRecDepth 100000 in
theorem impl_state.calls (k : Nat) (a0 : Int) (a1 : Int) (r : ByteArray) (w : World) (h : impl_state.f k a0 a1 = some r) :
  Calls Tryz.prog 58 #[.int .i64 a0, .int .i64 a1] w fun e w' => e = .returned (.string r) ∧ Below w.heap.size w w' := by
 have HB := aM (Below.refl w.heap.size w)
 have H := h; clear h; unfold impl_state.f at H
 replace H := iC H; obtain ⟨c3, H⟩ := H
 have c3b0 := eq_true c3
 have c3b1 := decide_eq_true c3
 clear c3
 replace H := iC H; obtain ⟨c4, H⟩ := H
 have c4b0 := eq_true c4
 have c4b1 := decide_eq_true c4
 clear c4
 replace H := jY H; obtain ⟨y340, Ny340, H⟩ := H
 have H' := aM H
 clear H
 go_enter Tryz.func58, Tryz.ntmps58
 go_wp2_with (first | ((with_reducible refine gate_dst (N := 13) rfl ?_); refine Kd.R_make (Kd.int .u8) _ 5 rfl (N := 13) rfl 42 _ _ rfl a0 rfl rfl Tryz.underlying42 (.int .u8 0) 1 info5 rfl (by decide) (by omega) 0 (ok := fun _ => True) (okp := fun _ => True) rfl (fun _ hk => hk) trivial (oD) (Nat.le_trans (Nat.mul_le_mul_right _ (oD : a0.toNat ≤ 281474976710656)) (by omega)) (Below.refl _ _) (Nat.le_refl _) ?_; intro v341 w5 ho6 hb hg_ hnew_; clear hg_ hnew_; rw [← Ny340.out] at ho6; have HO342 := aM (Kd.R_lower ho6 (below_size HB.out)); replace HB := aM (below_step HB.out hb); clear hb ho6; obtain ⟨Ao7, co7, eo7⟩ := Kd.R_slice HO342.out; subst eo7))
 go_loopg [16] k (fun kq v16 w' => ∃ (x6_1 : List Int) (x16_1 : Int), v16 = .int .i64 x16_1 ∧ Aside0 (impl_state.l0 kq (Go.bits .xor .i64 a1 (wrap64 (Int.tdiv a1 2))) x6_1 (y340.length : Int) x16_1 = some r) ∧ Aside0 (kq ≤ k) ∧ Aside0 (Kd.R (Kd.int .u8) 5 w' w.heap.size (fun _ => True) (.slice Ao7 y340.length co7) x6_1) ∧ Aside0 (Below w.heap.size w w'))
 case atStart => exact ⟨(y340), (0), rfl, H', ⟨Nat.le_refl _⟩, HO342, HB⟩
 case round =>
  clear H'
  clear c3b0 c3b1 c4b0 c4b1
  obtain ⟨x6_1, x16_1, rfl, HA, HK1, HO_6, HB⟩ := hrel
  have hl6_1 := (Kd.R_reads' HO_6.out).1
  rw [hl6_1] at HO_6
  cases gk with
  | zero => exact absurd HA.out (by simp [impl_state.l0])
  | succ k1 =>
   have H := HA.out
   clear HA
   simp only [impl_state.l0] at H
   replace H := iO H; obtain ⟨c8, H⟩ | ⟨c8, H⟩ := H
   ·have c8b0 := decide_eq_true c8
    clear c8
    replace H := iT H; obtain ⟨c9b0, c9b1, H⟩ := H
    obtain ⟨ji10, hji10⟩ : ∃ j_ : Int, (shr .i64 (Go.bits .xor .i64 a1 (wrap64 (Int.tdiv a1 2))) x16_1) = j_ := ⟨_, rfl⟩
    replace H : (if x16_1 < (x6_1.length : Int) then (impl_state.l0 k1 (Go.bits .xor .i64 a1 (wrap64 (Int.tdiv a1 2))) (x6_1.set (x16_1 : Int).toNat ((48 + ((Go.bits .and .i64 (ji10) 1) % 256)) % 256)) (y340.length : Int) (wrap64 (x16_1 + 1))) else (none)) = some r := by first | (rw [hji10] at H; exact H) | (simp only [hji10] at H ⊢; exact H)
    have hji10_ : ((Go.bits .xor .i64 a1 (wrap64 (Int.tdiv a1 2))) / 2 ^ min x16_1.toNat 64) = ji10 := hji10
    have hji10z : x16_1 ≤ 64 → ((Go.bits .xor .i64 a1 (wrap64 (Int.tdiv a1 2))) / 2 ^ x16_1.toNat) = ji10 := shr_small hji10
    replace H := iN H; obtain ⟨c11b0, H⟩ := H
    obtain ⟨y343, Ny343, h_⟩ := yG (α := List Int) (x6_1.set (x16_1 : Int).toNat ((48 + ((Go.bits .and .i64 (ji10) 1) % 256)) % 256)); rw [← h_] at H; clear h_
    have H' := aM H
    clear H; have p12 : 0 ≤ (x16_1 : Int) := oD; have q12 : (x16_1 : Int) < ((x6_1.length : Int) : Int) := oD
    obtain ⟨go12, co12, eo12, gb12, gl12, cl12, HG12⟩ := Kd.R_form HO_6.out (by omega)
    (first | cases eo12 | (injection eo12 with ea_ en_ ec_; (first | subst ea_ | (injection ea_ with ea_; subst ea_)); subst ec_; clear en_))
    have GB12 := aM gb12
    have GG12 := aM HG12
    clear gb12 gl12 HG12; obtain ⟨hx12_0, hf12_0⟩ := Kd.R_celln 0 HO_6.out (x16_1 : Int) p12 q12; replace p12 := eq_true p12; replace q12 := eq_true q12
    have HP13 := Kd.R_putg HO_6.out (x16_1 : Int) ((48 + ((Go.bits .and .i64 (ji10) 1) % 256)) % 256)
    go_wp2_with (first | ((with_reducible refine gate_store (t := 5) (p := 27) rfl ?_); refine store_event (t := 5) (p := 27) (v := ?vo_w14) (w1 := (wr.setCell ⟨go12, (x16_1 : Int).toNat, none⟩ (.int .u8 ((48 + ((Go.bits .and .i64 (ji10) 1) % 256)) % 256)))) ?hg ?ho ?hn ?hr ?_; (case ho => rfl); (case hg => rfl); (case hn => rfl); (case hr => go_simp); intro w14 hw; have hg : wr.grownBy w14 (some go12) := (by rw [hw]; exact HP13.2); have hp_ : Kd.R (Kd.int .u8) 5 w14 w.heap.size (fun _ => True) (.slice (some ⟨go12, 0, none⟩) x6_1.length co7) y343 := (by rw [hw, Ny343.out]; exact HP13.1); clear HP13; replace HO_6 := aM (hp_); replace HB := aM ((by rw [hw]; exact below_set (HB.out) GB12.out : Below w.heap.size w w14)); clear hg hw hp_))
    (try simp only [← hl6_1])
    go_roundg k1
    case measure => have := HK1.out; omega
    case rel => exact ⟨(y343), (wrap64 (x16_1 + 1)), rfl, H', ⟨by have := HK1.out; omega⟩, ⟨by (try simp only [hl6_1]); (with_reducible repeat (first | apply rA | apply rN | apply rD)); exact HO_6.out⟩, ⟨bQ⟩⟩
   ·have c8b0 := decide_eq_false c8
    (try (have c8m0 := c8b0; simp only [hl6_1] at c8m0))
    clear c8
    obtain rfl := Option.some.inj H
    have hcv15 := own_string (P := Tryz.prog) Tryz.underlying42 Tryz.underlying5 Tryz.underlying9 (Kd.own_of_R HO_6.out)
    go_wp2
    go_ret
    exact ⟨rfl, HB.out⟩
/-! ### impl_StateOfNumber: function 25 -/
def impl_StateOfNumber.f (k : Nat) (a0 : Int) (a1 : Int) : Option (ByteArray × Bool) := (impl_in.f a0 1 20).bind fun t344 => (if t344 = true then (if 0 ≤ a0 then ((impl_in.f a1 0 (wrap64 ((shl .i64 1 a0) - 1))).bind fun t345 => (if t345 = true then ((impl_state.f k a0 a1).bind fun t346 => (some (t346, true))) else (some ((⟨#[]⟩ : ByteArray), false)))) else (none)) else (some ((⟨#[]⟩ : ByteArray), false)))
theorem impl_StateOfNumber.mono : ∀ a0 a1 k, LeO (impl_StateOfNumber.f k a0 a1) (impl_StateOfNumber.f (k + 1) a0 a1) := by
 intro a0 a1 k
 unfold impl_StateOfNumber.f
 with_reducible repeat' first | exact impl_state.mono _ _ _ | exact LeO.refl _ | exact LeO.none _ | refine LeO.ite ?_ ?_ | refine LeO.bind ?_ (fun _ => ?_)
set_option maxHeartbeats 8000000 in
set_option maxRecDepth 100000 in
theorem impl_StateOfNumber.calls (k : Nat) (a0 : Int) (a1 : Int) (r1 : ByteArray) (r2 : Bool) (w : World) (h : impl_StateOfNumber.f k a0 a1 = some (r1, r2)) :
  Calls Tryz.prog 25 #[.int .i64 a0, .int .i64 a1] w fun e w' => e = .returned (.tuple #[.string r1, .bool r2]) ∧ Below w.heap.size w w' := by
 have HB := aM (Below.refl w.heap.size w)
 have H := h; clear h; unfold impl_StateOfNumber.f at H
 replace H := jS H; obtain ⟨t344, A3, H⟩ := H
 by_cases c4 : t344 = true
 ·subst c4
  replace H := jT H
  replace H := iT H; obtain ⟨c5b0, c5b1, H⟩ := H
  obtain ⟨ji6, hji6⟩ : ∃ j_ : Int, (shl .i64 1 a0) = j_ := ⟨_, rfl⟩
  replace H : ((impl_in.f a1 0 (wrap64 ((ji6) - 1))).bind fun t345 => (if t345 = true then ((impl_state.f k a0 a1).bind fun t346 => (some (t346, true))) else (some ((⟨#[]⟩ : ByteArray), false)))) = some (r1, r2) := by first | (rw [hji6] at H; exact H) | (simp only [hji6] at H ⊢; exact H)
  (try rw [hji6] at A3)
  have hji6_ : (IntKind.i64.wrap (1 * 2 ^ min a0.toNat 64)) = ji6 := hji6
  have hji6z : a0 ≤ 64 → (IntKind.i64.wrap (1 * 2 ^ a0.toNat)) = ji6 := shl_small hji6
  have hji6u : (IntKind.i64.wrap (2 ^ min a0.toNat 64)) = ji6 := by have h_ := hji6_; rw [Int.one_mul] at h_; exact h_
  have hji6v : a0 ≤ 64 → (IntKind.i64.wrap (2 ^ a0.toNat)) = ji6 := fun hle_ => by have h_ := hji6z hle_; rw [Int.one_mul] at h_; exact h_
  have hji6y : (wrap64 (1 * 2 ^ min a0.toNat 64)) = ji6 := (i64_w _).symm.trans hji6_
  have hji6x : a0 ≤ 64 → (wrap64 (1 * 2 ^ a0.toNat)) = ji6 := fun h_ => (i64_w _).symm.trans (hji6z h_)
  replace H := jS H; obtain ⟨t345, A7, H⟩ := H
  by_cases c8 : t345 = true
  ·subst c8
   replace H := jT H
   replace H := jS H; obtain ⟨t346, A9, H⟩ := H
   simp only [Option.some.injEq, Prod.mk.injEq] at H
   obtain ⟨rfl, rfl⟩ := H
   go_enter Tryz.func25, Tryz.ntmps25
   go_wp2_with (first | ((with_reducible refine gC 50 rfl ?_); refine gL (some 7) Tryz.func50 #[.int .i64 a0, .int .i64 1, .int .i64 20] ?_; (with_reducible refine (impl_in.calls a0 1 20 true _ A3.out).mono ?_); rintro e w' ⟨rfl, ⟨nd, rfl⟩⟩; refine ⟨_, rfl, ?_⟩) | (go_at_call 50; (with_reducible refine (impl_in.calls a1 0 (wrap64 ((ji6) - 1)) true _ A7.out).mono ?_); rintro e w' ⟨rfl, ⟨nd, rfl⟩⟩) | ((with_reducible refine gC 58 rfl ?_); refine gL (some 19) Tryz.func58 #[.int .i64 a0, .int .i64 a1] ?_; (with_reducible refine (impl_state.calls k a0 a1 t346 _ A9.out).mono ?_); rintro e w10 ⟨rfl, hb⟩; refine ⟨_, rfl, ?_⟩; replace HB := aM (below_step bQ hb); (try clear hb)))
   go_ret2
   exact ⟨by first | rfl | (simp [errW_none, errW_some] <;> rfl) | (simp only [← hji6]; first | rfl | (simp [errW_none, errW_some] <;> rfl)) | (simp [*, errW_none, errW_some] <;> rfl), HB.out⟩
  ·replace c8 := Bool.eq_false_iff.mpr c8
   subst c8
   replace H := jF H
   simp only [Option.some.injEq, Prod.mk.injEq] at H
   obtain ⟨rfl, rfl⟩ := H
   go_enter Tryz.func25, Tryz.ntmps25
   go_wp2_with (first | ((with_reducible refine gC 50 rfl ?_); refine gL (some 7) Tryz.func50 #[.int .i64 a0, .int .i64 1, .int .i64 20] ?_; (with_reducible refine (impl_in.calls a0 1 20 true _ A3.out).mono ?_); rintro e w' ⟨rfl, ⟨nd, rfl⟩⟩; refine ⟨_, rfl, ?_⟩) | (go_at_call 50; (with_reducible refine (impl_in.calls a1 0 (wrap64 ((ji6) - 1)) false _ A7.out).mono ?_); rintro e w' ⟨rfl, ⟨nd, rfl⟩⟩))
   go_ret2
   exact ⟨by first | rfl | (simp [errW_none, errW_some] <;> rfl) | (simp only [← hji6]; first | rfl | (simp [errW_none, errW_some] <;> rfl)) | (simp [*, errW_none, errW_some] <;> rfl), bQ⟩
 ·replace c4 := Bool.eq_false_iff.mpr c4
  subst c4
  replace H := jF H
  simp only [Option.some.injEq, Prod.mk.injEq] at H
  obtain ⟨rfl, rfl⟩ := H
  go_enter Tryz.func25, Tryz.ntmps25
  go_wp2_with (first | ((with_reducible refine gC 50 rfl ?_); refine gL (some 7) Tryz.func50 #[.int .i64 a0, .int .i64 1, .int .i64 20] ?_; (with_reducible refine (impl_in.calls a0 1 20 false _ A3.out).mono ?_); rintro e w' ⟨rfl, ⟨nd, rfl⟩⟩; refine ⟨_, rfl, ?_⟩))
  go_ret2
  exact ⟨rfl, bQ⟩

/-! ### impl_IsState: function 59 -/
def impl_IsState.f (a0 : ByteArray) : Option (Bool) := (impl_in.f (a0.size : Int) 1 20).bind fun t347 => (if t347 = true then ((strings_Trim.f a0 (⟨#[48, 49]⟩ : ByteArray)).bind fun t348 => (some (t348.toList == ([] : List UInt8)))) else (some false))
set_option maxHeartbeats 8000000 in
set_option maxRecDepth 100000 in
theorem impl_IsState.calls (a0 : ByteArray) (r : Bool) (w : World) (h : impl_IsState.f a0 = some r) :
  Calls Tryz.prog 59 #[.string a0] w fun e w' => e = .returned (.bool r) ∧ Below w.heap.size w w' := by
 have HB := aM (Below.refl w.heap.size w)
 have H := h; clear h; unfold impl_IsState.f at H
 replace H := jS H; obtain ⟨t347, A2, H⟩ := H
 by_cases c3 : t347 = true
 ·subst c3
  replace H := jT H
  replace H := jS H; obtain ⟨t348, A4, H⟩ := H
  obtain rfl := Option.some.inj H
  go_enter Tryz.func59, Tryz.ntmps59
  go_wp2_with (first | ((with_reducible refine gC 50 rfl ?_); refine gL (some 5) Tryz.func50 #[.int .i64 (a0.size : Int), .int .i64 1, .int .i64 20] ?_; (with_reducible refine (impl_in.calls (a0.size : Int) 1 20 true _ A2.out).mono ?_); rintro e w' ⟨rfl, ⟨nd, rfl⟩⟩; refine ⟨_, rfl, ?_⟩) | (go_at_call 80; (with_reducible refine (strings_Trim.calls a0 (⟨#[48, 49]⟩ : ByteArray) t348 _ A4.out).mono ?_); rintro e w5 ⟨rfl, hb⟩; replace HB := aM (below_step bQ hb); (try clear hb)))
  go_ret
  exact ⟨by first | rfl | (simp [errW_none, errW_some] <;> rfl) | (simp [*, errW_none, errW_some] <;> rfl), bQ⟩
 ·replace c3 := Bool.eq_false_iff.mpr c3
  subst c3
  replace H := jF H
  obtain rfl := Option.some.inj H
  go_enter Tryz.func59, Tryz.ntmps59
  go_wp2_with (first | ((with_reducible refine gC 50 rfl ?_); refine gL (some 5) Tryz.func50 #[.int .i64 (a0.size : Int), .int .i64 1, .int .i64 20] ?_; (with_reducible refine (impl_in.calls (a0.size : Int) 1 20 false _ A2.out).mono ?_); rintro e w' ⟨rfl, ⟨nd, rfl⟩⟩; refine ⟨_, rfl, ?_⟩))
  go_ret
  exact ⟨rfl, bQ⟩

/-! ### impl_canMove: function 86 -/
def impl_canMove.f (a0 : ByteArray) (a1 : Int) : Option (Bool) := if a1 = 0 then (some true) else ((impl_in.f a1 1 (wrap64 ((a0.size : Int) - 1))).bind fun t349 => (if t349 = true then (if 0 ≤ (wrap64 (a1 - 1)) then (if (wrap64 (a1 - 1)) < (a0.size : Int) then (if (bt a0 (wrap64 (a1 - 1))) = 49 then (if (wrap64 (a1 - 1)) ≤ (a0.size : Int) then ((strings_Trim.f (a0.extract 0 ((wrap64 (a1 - 1)) : Int).toNat) (⟨#[48]⟩ : ByteArray)).bind fun t350 => (some (t350.toList == ([] : List UInt8)))) else (none)) else (some false)) else (none)) else (none)) else (some false)))
set_option maxHeartbeats 8000000 in
set_option maxRecDepth 100000 in
theorem impl_canMove.calls (a0 : ByteArray) (a1 : Int) (r : Bool) (w : World) (h : impl_canMove.f a0 a1 = some r) :
  Calls Tryz.prog 86 #[.string a0, .int .i64 a1] w fun e w' => e = .returned (.bool r) ∧ Below w.heap.size w w' := by
 have HB := aM (Below.refl w.heap.size w)
 have H := h; clear h; unfold impl_canMove.f at H
 replace H := iO H; obtain ⟨c3, H⟩ | ⟨c3, H⟩ := H
 ·have c3b0 : (a1 == 0) = true := beq_iff_eq.mpr c3
  have c3b1 : (a1 != 0) = false := bne_eq_false_iff_eq.mpr c3
  clear c3
  obtain rfl := Option.some.inj H
  go_enter Tryz.func86, Tryz.ntmps86
  go_wp2
  go_ret
  exact ⟨rfl, HB.out⟩
 ·have c3b0 : (a1 == 0) = false := beq_eq_false_iff_ne.mpr c3
  have c3b1 : (a1 != 0) = true := bne_iff_ne.mpr c3
  replace H := jS H; obtain ⟨t349, A4, H⟩ := H
  by_cases c5 : t349 = true
  ·subst c5
   replace H := jT H
   obtain ⟨ji6, hji6⟩ : ∃ j_ : Int, (wrap64 (a1 - 1)) = j_ := ⟨_, rfl⟩
   replace H : (if 0 ≤ (ji6) then (if (ji6) < (a0.size : Int) then (if (bt a0 (ji6)) = 49 then (if (ji6) ≤ (a0.size : Int) then ((strings_Trim.f (a0.extract 0 ((ji6) : Int).toNat) (⟨#[48]⟩ : ByteArray)).bind fun t350 => (some (t350.toList == ([] : List UInt8)))) else (none)) else (some false)) else (none)) else (none)) = some r := by first | (rw [hji6] at H; exact H) | (simp only [hji6] at H ⊢; exact H)
   (try rw [hji6] at A4)
   have hji6w : (IntKind.i64.wrap (a1 - 1)) = ji6 := (i64_w _).trans hji6
   replace H := iC H; obtain ⟨c7, H⟩ := H
   have c7b0 := decide_eq_true c7
   clear c7
   replace H := iC H; obtain ⟨c8, H⟩ := H
   have c8b0 := decide_eq_true c8
   clear c8
   replace H := iO H; obtain ⟨c10, H⟩ | ⟨c10, H⟩ := H
   ·have c10b0 : ((bt a0 (ji6)) == 49) = true := beq_iff_eq.mpr c10
    have c10b1 : ((bt a0 (ji6)) != 49) = false := bne_eq_false_iff_eq.mpr c10
    clear c10
    have c11b0 := eq_true (oD : 0 ≤ (ji6))
    replace H := iT H; obtain ⟨c12b0, c12b1, H⟩ := H
    replace H := jS H; obtain ⟨t350, A13, H⟩ := H
    obtain rfl := Option.some.inj H
    go_enter Tryz.func86, Tryz.ntmps86
    go_wp2_with (first | (go_at_call 50; (with_reducible refine (impl_in.calls a1 1 (wrap64 ((a0.size : Int) - 1)) true _ A4.out).mono ?_); rintro e w' ⟨rfl, ⟨nd, rfl⟩⟩; have p9 : 0 ≤ ((ji6) : Int) := oD; have q9 : (ji6) < (a0.size : Int) := oD; have hx9 := bt_at a0 (ji6); replace p9 := eq_true p9; replace q9 := eq_true q9) | (go_at_call 80; (with_reducible refine (strings_Trim.calls (a0.extract 0 ((ji6) : Int).toNat) (⟨#[48]⟩ : ByteArray) t350 _ A13.out).mono ?_); rintro e w14 ⟨rfl, hb⟩; replace HB := aM (below_step bQ hb); (try clear hb)))
    go_ret
    exact ⟨by first | rfl | (simp [errW_none, errW_some] <;> rfl) | (simp only [← hji6]; first | rfl | (simp [errW_none, errW_some] <;> rfl)) | (simp [*, errW_none, errW_some] <;> rfl), HB.out⟩
   ·have c10b0 : ((bt a0 (ji6)) == 49) = false := beq_eq_false_iff_ne.mpr c10
    have c10b1 : ((bt a0 (ji6)) != 49) = true := bne_iff_ne.mpr c10
    obtain rfl := Option.some.inj H
    go_enter Tryz.func86, Tryz.ntmps86
    go_wp2_with (first | (go_at_call 50; (with_reducible refine (impl_in.calls a1 1 (wrap64 ((a0.size : Int) - 1)) true _ A4.out).mono ?_); rintro e w' ⟨rfl, ⟨nd, rfl⟩⟩; have p9 : 0 ≤ ((ji6) : Int) := oD; have q9 : (ji6) < (a0.size : Int) := oD; have hx9 := bt_at a0 (ji6); replace p9 := eq_true p9; replace q9 := eq_true q9))
    go_ret
    exact ⟨by first | rfl | (simp [errW_none, errW_some] <;> rfl) | (simp only [← hji6]; first | rfl | (simp [errW_none, errW_some] <;> rfl)) | (simp [*, errW_none, errW_some] <;> rfl), bQ⟩
  ·replace c5 := Bool.eq_false_iff.mpr c5
   subst c5
   replace H := jF H
   obtain rfl := Option.some.inj H
   go_enter Tryz.func86, Tryz.ntmps86
   go_wp2_with (first | (go_at_call 50; (with_reducible refine (impl_in.calls a1 1 (wrap64 ((a0.size : Int) - 1)) false _ A4.out).mono ?_); rintro e w' ⟨rfl, ⟨nd, rfl⟩⟩))
   go_ret
   exact ⟨rfl, bQ⟩

/-! ### impl_movesOf: function 60 -/
def impl_movesOf.l0 : Nat → ByteArray → List Int → Int → Int → Option (List Int)
 | 0, _, _, _, _ => none
 | k + 1, x0, x3, x6, x7 => if x7 < x6 then ((impl_canMove.f x0 x7).bind fun t351 => (if t351 = true then (if x3.length < 17592186044416 then (impl_movesOf.l0 k x0 (x3 ++ [x7]) x6 (wrap64 (x7 + 1))) else (none)) else (impl_movesOf.l0 k x0 x3 x6 (wrap64 (x7 + 1))))) else (some x3)
def impl_movesOf.f (k : Nat) (a0 : ByteArray) : Option (List Int) := impl_movesOf.l0 k a0 ([] : List Int) (a0.size : Int) 0
theorem impl_movesOf.mono_l : ∀ k, (∀ y0 y1 y2 y3, LeO (impl_movesOf.l0 k y0 y1 y2 y3) (impl_movesOf.l0 (k + 1) y0 y1 y2 y3))
 | 0 => fun _ _ _ _ r h => by simp [impl_movesOf.l0] at h
 | k + 1 => by
  have ih0 := impl_movesOf.mono_l k
  ·intro y0 y1 y2 y3
   unfold impl_movesOf.l0
   with_reducible repeat' first | exact ih0 _ _ _ _ | exact LeO.refl _ | exact LeO.none _ | refine LeO.ite ?_ ?_ | refine LeO.bind ?_ (fun _ => ?_)
theorem impl_movesOf.mono : ∀ a0 k, LeO (impl_movesOf.f k a0) (impl_movesOf.f (k + 1) a0) := by
 intro a0 k
 have ih0 := impl_movesOf.mono_l k
 unfold impl_movesOf.f
 with_reducible repeat' first | exact ih0 _ _ _ _ | exact LeO.refl _ | exact LeO.none _ | refine LeO.ite ?_ ?_ | refine LeO.bind ?_ (fun _ => ?_)
set_option maxHeartbeats 8000000 in
set_option maxRecDepth 100000 in
theorem impl_movesOf.calls (k : Nat) (a0 : ByteArray) (r : List Int) (w : World) (h : impl_movesOf.f k a0 = some r) :
  Calls Tryz.prog 60 #[.string a0] w fun e w' => ∃ v0_ : Value, e = .returned (v0_) ∧ Kd.R (Kd.int .i64) 3 w' w.heap.size (fun _ => True) v0_ r ∧ Below w.heap.size w w' := by
 have HB := aM (Below.refl w.heap.size w)
 have H := h; clear h; unfold impl_movesOf.f at H
 have H' := aM H
 clear H
 go_enter Tryz.func60, Tryz.ntmps60
 go_wp2
 go_loopg [3, 7] k (fun kq v3 v7 w' => ∃ (x3_1 : List Int) (x7_1 : Int), v7 = .int .i64 x7_1 ∧ Aside0 (impl_movesOf.l0 kq a0 x3_1 (a0.size : Int) x7_1 = some r) ∧ Aside0 (kq ≤ k) ∧ Aside0 (Kd.R (Kd.int .i64) 3 w' w.heap.size (fun _ => True) v3 x3_1) ∧ Aside0 (Below w.heap.size w w'))
 case atStart => exact ⟨(([] : List Int)), (0), rfl, H', ⟨Nat.le_refl _⟩, ⟨by first | exact Kd.R_nil _ _ _ _ _ | exact Kd.N_nil _ _ _ _ _ | exact Kd.V_nil _ _ _ _ _ | exact Kd.Q_nil _ _ _ _ _ | exact Kd.S_nil _ _ _ _ _⟩, HB⟩
 case round =>
  clear H'
  obtain ⟨x3_1, x7_1, rfl, HA, HK1, HO_3, HB⟩ := hrel
  cases gk with
  | zero => exact absurd HA.out (by simp [impl_movesOf.l0])
  | succ k1 =>
   have H := HA.out
   clear HA
   simp only [impl_movesOf.l0] at H
   replace H := iE H; obtain ⟨c2b0, H⟩ | ⟨c2b0, H⟩ := H
   ·replace H := jS H; obtain ⟨t351, A3, H⟩ := H
    by_cases c4 : t351 = true
    ·subst c4
     replace H := jT H
     replace H := iC H; obtain ⟨c5, H⟩ := H
     have LMc5 := aM c5
     clear c5
     obtain ⟨y352, Ny352, h_⟩ := yG (α := List Int) (x3_1 ++ [x7_1]); rw [← h_] at H; clear h_
     have H' := aM H
     clear H
     go_wp2_with (first | ((with_reducible refine gC 86 rfl ?_); refine gL (some 12) Tryz.func86 #[.string a0, .int .i64 x7_1] ?_; (with_reducible refine (impl_canMove.calls a0 x7_1 true _ A3.out).mono ?_); rintro e w6 ⟨rfl, hb⟩; refine ⟨_, rfl, ?_⟩; replace HO_3 := aM (Kd.R_below HO_3.out hb); replace HB := aM (below_step HB.out hb); (try clear hb)) | ((with_reducible refine gate_builtin (b := .append) (xs := #[.tmp 13, .tmp 15]) rfl ?_); at_builtin; refine Kd.R_append (Kd.int .i64) (w0 := w) w.heap.size rfl (.tmp 13) (.tmp 15) 36 3 (.int .i64 0) 8 rfl Tryz.underlying36 info3 rfl (by decide) (by omega) u3 x3_1 x7_1 [.int .i64 x7_1] (fun _ => True) (fun _ => False) rfl rfl ?aP (fun _ hk => hk.elim) ?aF ?aO ?aB ?aS ?aL ?_; (case aP => exact rfl); (case aB => exact HB.out); (case aF => exact (fun _ _ => trivial)); (case aO => exact HO_3.out); (case aS => exact (below_size HB.out)); (case aL => have := LMc5.out; omega); intro v353 w7 ho hb hg hat; rw [← Ny352.out] at ho; replace HB := aM (hb); have HO354 := aM (ho); clear ho hb hg hat))
     go_roundg k1
     case measure => have := HK1.out; omega
     case rel => exact ⟨(y352), (wrap64 (x7_1 + 1)), rfl, H', ⟨by have := HK1.out; omega⟩, HO354, HB⟩
    ·replace c4 := Bool.eq_false_iff.mpr c4
     subst c4
     replace H := jF H
     have H' := aM H
     clear H
     go_wp2_with (first | ((with_reducible refine gC 86 rfl ?_); refine gL (some 12) Tryz.func86 #[.string a0, .int .i64 x7_1] ?_; (with_reducible refine (impl_canMove.calls a0 x7_1 false _ A3.out).mono ?_); rintro e w8 ⟨rfl, hb⟩; refine ⟨_, rfl, ?_⟩; replace HO_3 := aM (Kd.R_below HO_3.out hb); replace HB := aM (below_step HB.out hb); (try clear hb)))
     go_roundg k1
     case measure => have := HK1.out; omega
     case rel => exact ⟨(x3_1), (wrap64 (x7_1 + 1)), rfl, H', ⟨by have := HK1.out; omega⟩, HO_3, HB⟩
   ·obtain rfl := Option.some.inj H
    go_wp2
    go_ret
    exact ⟨_, rfl, HO_3.out, HB.out⟩

/-! ### impl_MovesOf: function 26 -/
def impl_MovesOf.f (k : Nat) (a0 : ByteArray) : Option (List Int × Bool) := (impl_IsState.f a0).bind fun t355 => (if t355 = true then ((impl_movesOf.f k a0).bind fun t356 => (some (t356, true))) else (some (([] : List Int), false)))
theorem impl_MovesOf.mono : ∀ a0 k, LeO (impl_MovesOf.f k a0) (impl_MovesOf.f (k + 1) a0) := by
 intro a0 k
 unfold impl_MovesOf.f
 with_reducible repeat' first | exact impl_movesOf.mono _ _ | exact LeO.refl _ | exact LeO.none _ | refine LeO.ite ?_ ?_ | refine LeO.bind ?_ (fun _ => ?_)
set_option maxHeartbeats 8000000 in
set_option maxRecDepth 100000 in
theorem impl_MovesOf.calls (k : Nat) (a0 : ByteArray) (r1 : List Int) (r2 : Bool) (w : World) (h : impl_MovesOf.f k a0 = some (r1, r2)) :
  Calls Tryz.prog 26 #[.string a0] w fun e w' => ∃ v0_ : Value, e = .returned (.tuple #[v0_, .bool r2]) ∧ Kd.R (Kd.int .i64) 3 w' w.heap.size (fun _ => True) v0_ r1 ∧ Below w.heap.size w w' := by
 have HB := aM (Below.refl w.heap.size w)
 have H := h; clear h; unfold impl_MovesOf.f at H
 replace H := jS H; obtain ⟨t355, A2, H⟩ := H
 by_cases c3 : t355 = true
 ·subst c3
  replace H := jT H
  replace H := jS H; obtain ⟨t356, A4, H⟩ := H
  simp only [Option.some.injEq, Prod.mk.injEq] at H
  obtain ⟨rfl, rfl⟩ := H
  go_enter Tryz.func26, Tryz.ntmps26
  go_wp2_with (first | ((with_reducible refine gC 59 rfl ?_); refine gL (some 5) Tryz.func59 #[.string a0] ?_; (with_reducible refine (impl_IsState.calls a0 true _ A2.out).mono ?_); rintro e w5 ⟨rfl, hb⟩; refine ⟨_, rfl, ?_⟩; replace HB := aM (below_step HB.out hb); (try clear hb)) | ((with_reducible refine gC 60 rfl ?_); refine gL (some 8) Tryz.func60 #[.string a0] ?_; (with_reducible refine (impl_movesOf.calls k a0 t356 _ A4.out).mono ?_); rintro e w6 ⟨v357, rfl, ho0, hb⟩; refine ⟨_, rfl, ?_⟩; have HO358 := aM (Kd.R_lower ho0 (below_size HB.out)); replace HB := aM (below_step HB.out hb); (try clear hb); (try clear ho0)))
  go_ret2
  exact ⟨_, rfl, HO358.out, HB.out⟩
 ·replace c3 := Bool.eq_false_iff.mpr c3
  subst c3
  replace H := jF H
  simp only [Option.some.injEq, Prod.mk.injEq] at H
  obtain ⟨rfl, rfl⟩ := H
  go_enter Tryz.func26, Tryz.ntmps26
  go_wp2_with (first | ((with_reducible refine gC 59 rfl ?_); refine gL (some 5) Tryz.func59 #[.string a0] ?_; (with_reducible refine (impl_IsState.calls a0 false _ A2.out).mono ?_); rintro e w7 ⟨rfl, hb⟩; refine ⟨_, rfl, ?_⟩; replace HB := aM (below_step HB.out hb); (try clear hb)))
  go_ret2
  exact ⟨_, rfl, by first | exact Kd.R_nil _ _ _ _ _ | exact Kd.N_nil _ _ _ _ _ | exact Kd.V_nil _ _ _ _ _ | exact Kd.Q_nil _ _ _ _ _ | exact Kd.S_nil _ _ _ _ _, HB.out⟩

/-! ### slices_IndexFunc_string_string: function 109 (told by hand) -/
theorem slices_IndexFunc_string_string.goesV_ {ops : Array Oper} {rest : List Oper} {oi : Oper} {a : Act} {w : World} {Q : Exit → Act → World → Prop} {f : FuncId} {lb : Array Value} {as_ : Array Operand} {ts : Array TypeId} {v : Operand} (N : Option Tmp) (hd : oi.dst = N) (hg : oi.guard = none) (args : Array Value)
  (hop : oi.op = .call { callee := .value v, args := as_, argTypes := ts }) (hv : a.eval v = .func (.func f) #[] lb) (hargs : as_.map a.eval = args) (eg : Go.Proofs.Enters Tryz.prog f)
  (h : Calls Tryz.prog f (args ++ lb) w fun e w' => ∃ v, e = .returned v ∧ wpList Tryz.prog ops Q rest (a.put N v) w') : wpList Tryz.prog ops Q (oi :: rest) a w := by
 refine wpList_plain hg fun K hK => ?_
 have he := eg (args ++ lb) w
 have hrun : (execOp a.eval oi).run Tryz.prog w = .ok (.enter f (args ++ lb)) w := by
  unfold execOp
  simp [hop, resolve, Deferred.ofValue, invoke, hv, hargs, he]
 unfold Oper.wp
 rw [hrun, Oper.upon_enter]
 refine h.mono fun e w'' hh => ?_
 obtain ⟨v, rfl, hk⟩ := hh
 subst hd
 exact hK _ _ hk
def slices_IndexFunc_string_string.l0 (rule : Nat → ByteArray → Option Bool) : Nat → List ByteArray → Int → Int → Option (Int)
 | 0, _, _, _ => none
 | k + 1, x0, x7, x8 => if x8 < x7 then (if 0 ≤ x8 then (if x8 < (x0.length : Int) then ((rule k (rdOf ByteArray.empty x0 x8)).bind fun t189 => (if t189 = true then (some x8) else (slices_IndexFunc_string_string.l0 rule k x0 x7 (wrap64 (x8 + 1))))) else (none)) else (none)) else (some (-1))
def slices_IndexFunc_string_string.f (rule : Nat → ByteArray → Option Bool) (k : Nat) (l0 : List ByteArray) : Option (Int) := slices_IndexFunc_string_string.l0 rule k l0 (l0.length : Int) 0
theorem slices_IndexFunc_string_string.mono_l {rule : Nat → ByteArray → Option Bool} (hr : ∀ x0 n, LeO (rule n x0) (rule (n + 1) x0)) : ∀ k, (∀ y0 y1 y2, LeO (slices_IndexFunc_string_string.l0 rule k y0 y1 y2) (slices_IndexFunc_string_string.l0 rule (k + 1) y0 y1 y2))
 | 0 => fun _ _ _ r h => by simp [slices_IndexFunc_string_string.l0] at h
 | k + 1 => by
  have ih0 := slices_IndexFunc_string_string.mono_l hr k
  ·intro y0 y1 y2
   unfold slices_IndexFunc_string_string.l0
   with_reducible repeat' first | exact ih0 _ _ _ | exact hr _ _ | exact LeO.refl _ | exact LeO.none _ | refine LeO.ite ?_ ?_ | refine LeO.bind ?_ (fun _ => ?_)
theorem slices_IndexFunc_string_string.mono {rule : Nat → ByteArray → Option Bool} (hr : ∀ x0 n, LeO (rule n x0) (rule (n + 1) x0)) : ∀ a0 k, LeO (slices_IndexFunc_string_string.f rule k a0) (slices_IndexFunc_string_string.f rule (k + 1) a0) := by
 intro a0 k
 have ih0 := slices_IndexFunc_string_string.mono_l hr k
 unfold slices_IndexFunc_string_string.f
 with_reducible repeat' first | exact ih0 _ _ _ | exact hr _ _ | exact LeO.refl _ | exact LeO.none _ | refine LeO.ite ?_ ?_ | refine LeO.bind ?_ (fun _ => ?_)
set_option maxHeartbeats 8000000 in
set_option maxRecDepth 100000 in
theorem slices_IndexFunc_string_string.calls (g : Nat) (lb : Array Value) (eg : Go.Proofs.Enters Tryz.prog g) (rule : Nat → ByteArray → Option Bool) (k : Nat) (A0 : Option Addr) (c0 : Nat) (l0 : List ByteArray) (r : Int) (w : World) (hr0 : Kd.C Kd.string w A0 l0.length l0) (hc0 : l0.length ≤ c0) 
  (hp : ∀ (j : Nat) (x : ByteArray) (b : Bool) (W : World), Below w.heap.size w W → rule j x = some b → Calls Tryz.prog g (#[.string x] ++ lb) W fun e w' => e = .returned (.bool b) ∧ Below W.heap.size W w')
  (h : slices_IndexFunc_string_string.f rule k l0 = some r) :
  Calls Tryz.prog 109 #[.slice A0 l0.length c0, .func (.func g) #[] lb] w fun e w' => e = .returned (.int .i64 r) ∧ Below w.heap.size w w' := by
 have HP_ := aM hp
 clear hp
 have EG_ := aM eg
 clear eg
 have HR0 := aM hr0
 have HC0 := aM hc0
 clear hr0 hc0
 have HB := aM (Below.refl w.heap.size w)
 have H := h; clear h; unfold slices_IndexFunc_string_string.f at H
 have H' := aM H
 clear H
 go_enter Tryz.func109, Tryz.ntmps109
 go_wp2
 go_loopg [8] k (fun kq v8 w' => ∃ (x8_1 : Int), v8 = .int .i64 x8_1 ∧ Aside0 (slices_IndexFunc_string_string.l0 rule kq l0 (l0.length : Int) x8_1 = some r) ∧ Aside0 (kq ≤ k) ∧ Aside0 (Below w.heap.size w w'))
 case atStart => exact ⟨(0), rfl, H', ⟨Nat.le_refl _⟩, HB⟩
 case round =>
  clear H'
  obtain ⟨x8_1, rfl, HA, HK1, HB⟩ := hrel
  cases gk with
  | zero => exact absurd HA.out (by simp [slices_IndexFunc_string_string.l0])
  | succ k1 =>
   have H := HA.out
   clear HA
   simp only [slices_IndexFunc_string_string.l0] at H
   replace H := iO H; obtain ⟨c3, H⟩ | ⟨c3, H⟩ := H
   ·have c3b0 := decide_eq_true c3
    clear c3
    replace H := iC H; obtain ⟨c4, H⟩ := H
    have c4b0 := decide_eq_true c4
    clear c4
    replace H := iN H; obtain ⟨c5b0, H⟩ := H
    replace H := jS H; obtain ⟨t189, A6, H⟩ := H
    by_cases c7 : t189 = true
    ·subst c7
     replace H := jT H
     obtain rfl := Option.some.inj H
     have p188 : 0 ≤ (x8_1 : Int) := oD; have q188 : x8_1 < (l0.length : Int) := oD; obtain ⟨ad188, e188, hx188_0⟩ := Kd.at_string HR0.out x8_1 p188 q188; cases e188
     replace hx188_0 := (HB.out.cell (World.block_lt_of_cell? w _ hx188_0)).trans hx188_0
     replace p188 := eq_true p188; replace q188 := eq_true q188
     go_wp2_with (first | ((with_reducible refine gate_dst (N := 16) rfl ?_); refine slices_IndexFunc_string_string.goesV_ (f := g) (lb := lb) (some 16) rfl rfl #[.string (rdOf ByteArray.empty l0 x8_1)] rfl rfl (by (try simp only [List.map_toArray, List.map_cons, List.map_nil]); first | done | rfl | (simp only [List.length_drop, List.length_take]; rfl)) EG_.out ?_; (with_reducible refine (HP_.out k1 (rdOf ByteArray.empty l0 x8_1) true _ HB.out A6.out).mono ?_); rintro e w8 ⟨rfl, hb⟩; refine ⟨_, rfl, ?_⟩; replace HB := aM (below_step HB.out hb); (try clear hb)))
     go_ret
     exact ⟨rfl, HB.out⟩
    ·replace c7 := Bool.eq_false_iff.mpr c7
     subst c7
     replace H := jF H
     have H' := aM H
     clear H; have p188 : 0 ≤ (x8_1 : Int) := oD; have q188 : x8_1 < (l0.length : Int) := oD; obtain ⟨ad188, e188, hx188_0⟩ := Kd.at_string HR0.out x8_1 p188 q188; cases e188
     replace hx188_0 := (HB.out.cell (World.block_lt_of_cell? w _ hx188_0)).trans hx188_0
     replace p188 := eq_true p188; replace q188 := eq_true q188
     go_wp2_with (first | ((with_reducible refine gate_dst (N := 16) rfl ?_); refine slices_IndexFunc_string_string.goesV_ (f := g) (lb := lb) (some 16) rfl rfl #[.string (rdOf ByteArray.empty l0 x8_1)] rfl rfl (by (try simp only [List.map_toArray, List.map_cons, List.map_nil]); first | done | rfl | (simp only [List.length_drop, List.length_take]; rfl)) EG_.out ?_; (with_reducible refine (HP_.out k1 (rdOf ByteArray.empty l0 x8_1) false _ HB.out A6.out).mono ?_); rintro e w9 ⟨rfl, hb⟩; refine ⟨_, rfl, ?_⟩; replace HB := aM (below_step HB.out hb); (try clear hb)))
     go_roundg k1
     case measure => have := HK1.out; omega
     case rel => exact ⟨(wrap64 (x8_1 + 1)), rfl, H', ⟨by have := HK1.out; omega⟩, HB⟩
   ·have c3b0 := decide_eq_false c3
    clear c3
    obtain rfl := Option.some.inj H
    go_wp2
    go_ret
    exact ⟨rfl, HB.out⟩




/-! ### slices_ContainsFunc_string_string: function 87 (told by hand) -/
def slices_ContainsFunc_string_string.f (rule : Nat → ByteArray → Option Bool) (k : Nat) (l0 : List ByteArray) : Option Bool := (slices_IndexFunc_string_string.f rule k l0).bind fun t => some (decide (0 ≤ t))
theorem slices_ContainsFunc_string_string.mono {rule : Nat → ByteArray → Option Bool} (hr : ∀ x0 n, LeO (rule n x0) (rule (n + 1) x0)) : ∀ a0 k, LeO (slices_ContainsFunc_string_string.f rule k a0) (slices_ContainsFunc_string_string.f rule (k + 1) a0) := fun a0 k => LeO.bind (slices_IndexFunc_string_string.mono hr a0 k) (fun _ => LeO.refl _)
set_option maxHeartbeats 4000000 in
set_option maxRecDepth 100000 in
theorem slices_ContainsFunc_string_string.calls (g : Nat) (lb : Array Value) (eg : Go.Proofs.Enters Tryz.prog g) (rule : Nat → ByteArray → Option Bool) (k : Nat) (A0 : Option Addr) (c0 : Nat) (l0 : List ByteArray) (r : Bool) (w : World) (hr0 : Kd.C Kd.string w A0 l0.length l0) (hc0 : l0.length ≤ c0)
  (hp : ∀ (j : Nat) (x : ByteArray) (b : Bool) (W : World), Below w.heap.size w W → rule j x = some b → Calls Tryz.prog g (#[.string x] ++ lb) W fun e w' => e = .returned (.bool b) ∧ Below W.heap.size W w')
  (h : slices_ContainsFunc_string_string.f rule k l0 = some r) :
  Calls Tryz.prog 87 #[.slice A0 l0.length c0, .func (.func g) #[] lb] w fun e w' => e = .returned (.bool r) ∧ Below w.heap.size w w' := by
 unfold slices_ContainsFunc_string_string.f at h
 obtain ⟨t, A1, h⟩ := Option.bind_eq_some_iff.mp h
 obtain rfl := Option.some.inj h
 clear h
 have HC := aM (slices_IndexFunc_string_string.calls g lb eg rule k A0 c0 l0 t w hr0 hc0 hp A1)
 clear A1 hp hr0 hc0
 go_enter Tryz.func87, Tryz.ntmps87
 go_wp2_with (first | (go_at_call 109; (with_reducible refine HC.out.mono ?_); rintro e w1 ⟨rfl, hb⟩))
 go_ret
 exact ⟨by first | rfl | simp, hb⟩

/-! ### impl_keyed_1: function 88 (told by hand) -/
/-- The function value of impl.keyed: whether a text is no state of so many rings. -/
def impl_keyed_1.rule (l0 : List ByteArray) (_ : Nat) (s : ByteArray) : Option Bool := (impl_IsState.f s).bind fun t => if t = true then some (decide (s.size ≠ l0.length)) else some true
theorem impl_keyed_1.rule_mono (l0 : List ByteArray) : ∀ s n, LeO (impl_keyed_1.rule l0 n s) (impl_keyed_1.rule l0 (n + 1) s) := fun _ _ => LeO.refl _
set_option maxHeartbeats 8000000 in
set_option maxRecDepth 100000 in
theorem impl_keyed_1.calls (B : Nat) (A0 : Option Addr) (c0 : Nat) (l0 : List ByteArray) (k : Nat) (s : ByteArray) (b : Bool) (w : World) (hbk : w.heap[B]? = some (.cells #[.slice A0 l0.length c0] 22 (0, 0))) (h : impl_keyed_1.rule l0 k s = some b) :
  Calls Tryz.prog 88 (#[.string s] ++ #[.pointer (some ⟨B, 0, none⟩)]) w fun e w' => e = .returned (.bool b) ∧ Below w.heap.size w w' := by
 show Calls Tryz.prog 88 #[.string s, .pointer (some ⟨B, 0, none⟩)] w _
 unfold impl_keyed_1.rule at h
 obtain ⟨t, A1_, h⟩ := Option.bind_eq_some_iff.mp h
 have HA := aM A1_
 have HBK := aM hbk
 clear A1_ hbk
 cases t with
 | false =>
  rw [if_neg (by simp)] at h
  obtain rfl := Option.some.inj h
  clear h
  go_enter Tryz.func88, Tryz.ntmps88
  go_wp2_with (first | (go_at_call 59; (with_reducible refine (impl_IsState.calls s false w HA.out).mono ?_); rintro e w6 ⟨rfl, hb⟩; have HB6 := aM hb; clear hb))
  go_ret
  exact ⟨rfl, HB6.out⟩
 | true =>
  rw [if_pos rfl] at h
  obtain rfl := Option.some.inj h
  clear h
  by_cases c1 : s.size = l0.length
  ·have d1 : ((s.size : Int) != (l0.length : Int)) = false := bne_eq_false_iff_eq.mpr (by rw [c1])
   have d2 : decide (s.size ≠ l0.length) = false := decide_eq_false (fun h => h c1)
   clear c1
   rw [d2]
   clear d2
   go_enter Tryz.func88, Tryz.ntmps88
   go_wp2_with (first | (go_at_call 59; (with_reducible refine (impl_IsState.calls s true w HA.out).mono ?_); rintro e w6 ⟨rfl, hb⟩; have HB6 := aM hb; have hz2 : w6.cell? ⟨B, 0, none⟩ = some (.slice A0 l0.length c0) := (blk_cell (blk_below (g := B) (o := .cells #[.slice A0 l0.length c0] 22 (0, 0)) HBK.out hb) 0).trans rfl; clear hb))
   go_ret
   exact ⟨rfl, HB6.out⟩
  ·have d1 : ((s.size : Int) != (l0.length : Int)) = true := bne_iff_ne.mpr (fun h => c1 (Int.ofNat.inj h))
   have d2 : decide (s.size ≠ l0.length) = true := decide_eq_true c1
   clear c1
   rw [d2]
   clear d2
   go_enter Tryz.func88, Tryz.ntmps88
   go_wp2_with (first | (go_at_call 59; (with_reducible refine (impl_IsState.calls s true w HA.out).mono ?_); rintro e w6 ⟨rfl, hb⟩; have HB6 := aM hb; have hz2 : w6.cell? ⟨B, 0, none⟩ = some (.slice A0 l0.length c0) := (blk_cell (blk_below (g := B) (o := .cells #[.slice A0 l0.length c0] 22 (0, 0)) HBK.out hb) 0).trans rfl; clear hb))
   go_ret
   exact ⟨rfl, HB6.out⟩

/-! ### impl_keyed: function 61 (told by hand) -/
def impl_keyed.f (k : Nat) (l0 : List ByteArray) (l1 : List ByteArray) : Option Bool := (impl_AreKeys.f k l0).bind fun t => if t = true then ((slices_ContainsFunc_string_string.f (impl_keyed_1.rule l0) k l1).bind fun b => some (!b)) else some false
theorem impl_keyed.mono : ∀ a0 a1 k, LeO (impl_keyed.f k a0 a1) (impl_keyed.f (k + 1) a0 a1) := fun a0 a1 k =>
 LeO.bind (impl_AreKeys.mono _ _) (fun _ => LeO.ite (LeO.bind (slices_ContainsFunc_string_string.mono (impl_keyed_1.rule_mono a0) a1 k) (fun _ => LeO.refl _)) (LeO.refl _))
set_option maxHeartbeats 8000000 in
set_option maxRecDepth 100000 in
theorem impl_keyed.calls (k : Nat) (A0 : Option Addr) (c0 : Nat) (l0 : List ByteArray) (A1 : Option Addr) (c1 : Nat) (l1 : List ByteArray) (r : Bool) (w : World) (hr0 : Kd.C Kd.string w A0 l0.length l0) (hc0 : l0.length ≤ c0) (hr1 : Kd.C Kd.string w A1 l1.length l1) (hc1 : l1.length ≤ c1) (h : impl_keyed.f k l0 l1 = some r) :
  Calls Tryz.prog 61 #[.slice A0 l0.length c0, .slice A1 l1.length c1] w fun e w' => e = .returned (.bool r) ∧ Below w.heap.size w w' := by
 have hmf : ∀ (fn : Fn) (first cap : Array Value) (w : World), (Instr.makeFunc fn first cap).run Tryz.prog w = .ok (.func fn first cap) w := fun _ _ _ _ => rfl
 unfold impl_keyed.f at h
 obtain ⟨t, A1_, h⟩ := Option.bind_eq_some_iff.mp h
 have HR0 := aM hr0
 have HR1 := aM hr1
 have HC0 := aM hc0
 have HC1 := aM hc1
 have HA := aM A1_
 clear hr0 hr1 hc0 hc1 A1_
 cases t with
 | false =>
  rw [if_neg (by simp)] at h
  obtain rfl := Option.some.inj h
  clear h
  go_enter Tryz.func61, Tryz.ntmps61
  go_wp2_with (first | ((with_reducible refine gate_dst (N := 2) rfl ?_); refine box_event ?hg (N := 2) ?hd (cs := #[.slice A0 l0.length c0]) (t := 22) ?hr ?_; (case hd => rfl); (case hg => rfl); (case hr => go_simp); intro gb hg w5 hbox hb; have HB := aM hb; have hz0 : w5.cell? ⟨gb, 0, none⟩ = some (.slice A0 l0.length c0) := (blk_cell hbox 0).trans rfl; clear hb hbox hg) | (go_at_call 18; (with_reducible refine (impl_AreKeys.calls k A0 c0 l0 false w5 (Kd.C_below HR0.out HB.out) HC0.out HA.out).mono ?_); rintro e w6 ⟨rfl, hb⟩; have HB6 := aM (below_step HB.out hb); clear hb))
  go_ret
  exact ⟨rfl, HB6.out⟩
 | true =>
  rw [if_pos rfl] at h
  obtain ⟨b, A2_, h⟩ := Option.bind_eq_some_iff.mp h
  obtain rfl := Option.some.inj h
  clear h
  have HA2 := aM A2_
  clear A2_
  go_enter Tryz.func61, Tryz.ntmps61
  go_wp2_with (first | ((with_reducible refine gate_dst (N := 2) rfl ?_); refine box_event ?hg (N := 2) ?hd (cs := #[.slice A0 l0.length c0]) (t := 22) ?hr ?_; (case hd => rfl); (case hg => rfl); (case hr => go_simp); intro gb hg w5 hbox hb; have HB := aM hb; have BK := aM hbox; have hz0 : w5.cell? ⟨gb, 0, none⟩ = some (.slice A0 l0.length c0) := (blk_cell hbox 0).trans rfl; clear hb hbox hg) | (go_at_call 18; (with_reducible refine (impl_AreKeys.calls k A0 c0 l0 true w5 (Kd.C_below HR0.out HB.out) HC0.out HA.out).mono ?_); rintro e w6 ⟨rfl, hb⟩; have HB6 := aM (below_step HB.out hb); have BK6 := aM (blk_below (g := gb) (o := .cells #[.slice A0 l0.length c0] 22 (0, 0)) BK.out hb); clear hb) | (go_at_call 87; (with_reducible refine (slices_ContainsFunc_string_string.calls 88 #[.pointer (some ⟨gb, 0, none⟩)] (Go.Proofs.enters_of Tryz.func88 (by kernel_rfl) rfl) (impl_keyed_1.rule l0) k A1 c1 l1 b w6 (Kd.C_below HR1.out HB6.out) HC1.out (fun j x b W' hb' hj => impl_keyed_1.calls gb A0 c0 l0 j x b W' (blk_below (g := gb) (o := .cells #[.slice A0 l0.length c0] 22 (0, 0)) BK6.out hb') hj) HA2.out).mono ?_); rintro e w7 ⟨rfl, hb⟩; have HB7 := aM (below_step HB6.out hb); clear hb))
  go_ret
  exact ⟨rfl, HB7.out⟩

/-! ### impl_KeyedMoves: function 27 -/
def impl_KeyedMoves.f (k : Nat) (l0 : List ByteArray) (a1 : ByteArray) : Option (List Int × Bool) := (impl_keyed.f k l0 (([a1] : List ByteArray))).bind fun t362 => (if t362 = true then ((impl_keyedMoves.f k l0 a1).bind fun t363 => (some (t363, true))) else (some (([] : List Int), false)))
theorem impl_KeyedMoves.mono : ∀ a0 a1 k, LeO (impl_KeyedMoves.f k a0 a1) (impl_KeyedMoves.f (k + 1) a0 a1) := by
 intro a0 a1 k
 unfold impl_KeyedMoves.f
 with_reducible repeat' first | exact impl_keyed.mono _ _ _ | exact impl_keyedMoves.mono _ _ _ | exact LeO.refl _ | exact LeO.none _ | refine LeO.ite ?_ ?_ | refine LeO.bind ?_ (fun _ => ?_)
set_option maxHeartbeats 8000000 in
set_option maxRecDepth 100000 in
theorem impl_KeyedMoves.calls (k : Nat) (A0 : Option Addr) (c0 : Nat) (l0 : List ByteArray) (a1 : ByteArray) (r1 : List Int) (r2 : Bool) (w : World) (hr0 : Kd.C Kd.string w A0 l0.length l0) (hc0 : l0.length ≤ c0) (h : impl_KeyedMoves.f k l0 a1 = some (r1, r2)) :
  Calls Tryz.prog 27 #[.slice A0 l0.length c0, .string a1] w fun e w' => ∃ v0_ : Value, e = .returned (.tuple #[v0_, .bool r2]) ∧ Kd.R (Kd.int .i64) 3 w' w.heap.size (fun _ => True) v0_ r1 ∧ Below w.heap.size w w' := by
 have HR0 := aM hr0
 have HC0 := aM hc0
 clear hr0 hc0
 have HB := aM (Below.refl w.heap.size w)
 have H := h; clear h; unfold impl_KeyedMoves.f at H
 obtain ⟨y359, Ny359, h_⟩ := yG (α := List ByteArray) (([a1] : List ByteArray)); rw [← h_] at H; clear h_
 replace H := jS H; obtain ⟨t362, A3, H⟩ := H
 by_cases c4 : t362 = true
 ·subst c4
  replace H := jT H
  replace H := jS H; obtain ⟨t363, A5, H⟩ := H
  simp only [Option.some.injEq, Prod.mk.injEq] at H
  obtain ⟨rfl, rfl⟩ := H
  go_enter Tryz.func27, Tryz.ntmps27
  go_wp2_with (first | ((with_reducible refine gate_dst (N := 8) rfl ?_); refine Kd.R_lit Kd.string _ 9 ?hg (N := 8) ?hd (xs := ([a1] : List ByteArray)) (inner := [.string a1]) (ok := fun _ => True) (okp := fun _ => True) ?hr ?hp (fun _ hk => hk) trivial (Below.refl _ _) (Nat.le_refl _) (by simp) ?_; (case hd => rfl); (case hg => rfl); (case hr => go_simp); (case hp => exact (Reps.one (show Kd.M Kd.string _ _ _ a1 [.string a1] from rfl) (Reps.none _ _))); intro v360 w6 ho7 hb hg_ hnew_; clear hg_ hnew_; rw [← Ny359.out] at ho7; have HO361 := aM (Kd.R_lower ho7 (below_size HB.out)); replace HB := aM (below_step HB.out hb); clear hb ho7; obtain ⟨Ao8, co8, eo8⟩ := Kd.R_slice HO361.out; subst eo8) | ((with_reducible refine gC 61 rfl ?_); refine gL (some 9) Tryz.func61 #[.slice A0 l0.length c0, .slice Ao8 y359.length co8] ?_; (with_reducible refine (impl_keyed.calls k _ _ l0 _ _ y359 true _ ?side1 ?side2 ?side3 ?side4 A3.out).mono ?_); (case side1 => exact Kd.C_below HR0.out HB.out); (case side2 => exact HC0.out); (case side3 => repeat (first | exact (Kd.R_reads' HO361.out).2.2 | (with_reducible refine cA ?_ _) | (with_reducible refine cN ?_ _) | (with_reducible refine cD ?_))); (case side4 => exact (Kd.R_reads' HO361.out).2.1); rintro e w9 ⟨rfl, hb⟩; refine ⟨_, rfl, ?_⟩; replace HO361 := aM (Kd.R_below HO361.out hb); replace HB := aM (below_step HB.out hb); (try clear hb)) | ((with_reducible refine gC 62 rfl ?_); refine gL (some 13) Tryz.func62 #[.slice A0 l0.length c0, .string a1] ?_; (with_reducible refine (impl_keyedMoves.calls k _ _ l0 a1 t363 _ ?side1 ?side2 A5.out).mono ?_); (case side1 => exact Kd.C_below HR0.out HB.out); (case side2 => exact HC0.out); rintro e w10 ⟨v364, rfl, ho0, hb⟩; refine ⟨_, rfl, ?_⟩; replace HO361 := aM (Kd.R_below HO361.out hb); have HO365 := aM (Kd.R_lower ho0 (below_size HB.out)); replace HB := aM (below_step HB.out hb); (try clear hb); (try clear ho0)))
  go_ret2
  exact ⟨_, rfl, HO365.out, HB.out⟩
 ·replace c4 := Bool.eq_false_iff.mpr c4
  subst c4
  replace H := jF H
  simp only [Option.some.injEq, Prod.mk.injEq] at H
  obtain ⟨rfl, rfl⟩ := H
  go_enter Tryz.func27, Tryz.ntmps27
  go_wp2_with (first | ((with_reducible refine gate_dst (N := 8) rfl ?_); refine Kd.R_lit Kd.string _ 9 ?hg (N := 8) ?hd (xs := ([a1] : List ByteArray)) (inner := [.string a1]) (ok := fun _ => True) (okp := fun _ => True) ?hr ?hp (fun _ hk => hk) trivial (Below.refl _ _) (Nat.le_refl _) (by simp) ?_; (case hd => rfl); (case hg => rfl); (case hr => go_simp); (case hp => exact (Reps.one (show Kd.M Kd.string _ _ _ a1 [.string a1] from rfl) (Reps.none _ _))); intro v360 w11 ho12 hb hg_ hnew_; clear hg_ hnew_; rw [← Ny359.out] at ho12; have HO361 := aM (Kd.R_lower ho12 (below_size HB.out)); replace HB := aM (below_step HB.out hb); clear hb ho12; obtain ⟨Ao13, co13, eo13⟩ := Kd.R_slice HO361.out; subst eo13) | ((with_reducible refine gC 61 rfl ?_); refine gL (some 9) Tryz.func61 #[.slice A0 l0.length c0, .slice Ao13 y359.length co13] ?_; (with_reducible refine (impl_keyed.calls k _ _ l0 _ _ y359 false _ ?side1 ?side2 ?side3 ?side4 A3.out).mono ?_); (case side1 => exact Kd.C_below HR0.out HB.out); (case side2 => exact HC0.out); (case side3 => repeat (first | exact (Kd.R_reads' HO361.out).2.2 | (with_reducible refine cA ?_ _) | (with_reducible refine cN ?_ _) | (with_reducible refine cD ?_))); (case side4 => exact (Kd.R_reads' HO361.out).2.1); rintro e w14 ⟨rfl, hb⟩; refine ⟨_, rfl, ?_⟩; replace HO361 := aM (Kd.R_below HO361.out hb); replace HB := aM (below_step HB.out hb); (try clear hb)))
  go_ret2
  exact ⟨_, rfl, by first | exact Kd.R_nil _ _ _ _ _ | exact Kd.N_nil _ _ _ _ _ | exact Kd.V_nil _ _ _ _ _ | exact Kd.Q_nil _ _ _ _ _ | exact Kd.S_nil _ _ _ _ _, HB.out⟩

end Go.Proofs.YtbmbehkdidlolaaGreatDoor.PT
