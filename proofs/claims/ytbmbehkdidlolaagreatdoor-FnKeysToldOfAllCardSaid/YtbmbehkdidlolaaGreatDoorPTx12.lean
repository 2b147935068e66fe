-- written by a program of this session's (wip/tools), over the kit's print
import Derived.Laws.CopyOwn
import Derived.Test.YtbmbehkdidlolaaGreatDoorPTx0
import Derived.Test.YtbmbehkdidlolaaGreatDoorPTx1
import Derived.Test.YtbmbehkdidlolaaGreatDoorPTx4
import Derived.Test.YtbmbehkdidlolaaGreatDoorPTx11
-- squeezed
-- squeezed twice
namespace Go.Proofs.YtbmbehkdidlolaaGreatDoor.PT
open Go.RowKit Go.Proofs.YtbmbehkdidlolaaGreatDoorW.PrintWords Go.Proofs.YtbmbehkdidlolaaGreatDoorW.PrintLast Go.Proofs.YtbmbehkdidlolaaGreatDoorW.PrintMore
attribute [local go_sem] max2_int min2_int max_two min_two max_three min_three max_four min_four   -- for this text's walks alone
set_option linter.unusedVariables false
set_option linter.unusedSimpArgs false

/-! ### spec_BarKeys: function 21 -/
def spec_BarKeys.l0 : Nat → Int → List ByteArray → Int → Option (List ByteArray × Bool)
 | 0, _, _, _ => none
 | k + 1, x0, x4, x5 => if x5 < x0 then ((spec_riAll.f k (wrap64 (x0 - x5)) (⟨#[63]⟩ : ByteArray)).bind fun t303 => (if x5 > 0 then ((spec_riAll.f k (wrap64 (x5 - 1)) (⟨#[48]⟩ : ByteArray)).bind fun t304 => (if t304.size + 1 ≤ 9223372036854775807 then (if (t304 ++ (⟨#[49]⟩ : ByteArray)).size + t303.size ≤ 9223372036854775807 then (if x4.length < 8796093022208 then (spec_BarKeys.l0 k x0 (x4 ++ [(t304 ++ (⟨#[49]⟩ : ByteArray)) ++ t303]) (wrap64 (x5 + 1))) else (none)) else (none)) else (none))) else (if x4.length < 8796093022208 then (spec_BarKeys.l0 k x0 (x4 ++ [t303]) (wrap64 (x5 + 1))) else (none)))) else (some (x4, true))
def spec_BarKeys.f (k : Nat) (a0 : Int) : Option (List ByteArray × Bool) := (spec_keRings.f a0).bind fun t302 => (if t302 = true then (spec_BarKeys.l0 k a0 ([] : List ByteArray) 0) else (some (([] : List ByteArray), false)))
theorem spec_BarKeys.mono_l : ∀ k, (∀ y0 y1 y2, LeO (spec_BarKeys.l0 k y0 y1 y2) (spec_BarKeys.l0 (k + 1) y0 y1 y2))
 | 0 => fun _ _ _ r h => by simp [spec_BarKeys.l0] at h
 | k + 1 => by
  have ih0 := spec_BarKeys.mono_l k
  ·intro y0 y1 y2
   unfold spec_BarKeys.l0
   with_reducible repeat' first | exact ih0 _ _ _ | exact spec_riAll.mono _ _ _ | exact LeO.refl _ | exact LeO.none _ | refine LeO.ite ?_ ?_ | refine LeO.bind ?_ (fun _ => ?_)
theorem spec_BarKeys.mono : ∀ a0 k, LeO (spec_BarKeys.f k a0) (spec_BarKeys.f (k + 1) a0) := by
 intro a0 k
 have ih0 := spec_BarKeys.mono_l k
 unfold spec_BarKeys.f
 with_reducible repeat' first | exact ih0 _ _ _ | exact spec_riAll.mono _ _ _ | exact LeO.refl _ | exact LeO.none _ | refine LeO.ite ?_ ?_ | refine LeO.bind ?_ (fun _ => ?_)
set_option maxHeartbeats 8000000 in
set_option maxRecDepth 100000 in
theorem spec_BarKeys.calls (k : Nat) (a0 : Int) (r1 : List ByteArray) (r2 : Bool) (w : World) (h : spec_BarKeys.f k a0 = some (r1, r2)) :
  Calls Tryz.prog 21 #[.int .i64 a0] w fun e w' => ∃ v0_ : Value, e = .returned (.tuple #[v0_, .bool r2]) ∧ Kd.R Kd.string 9 w' w.heap.size (fun _ => True) v0_ r1 ∧ Below w.heap.size w w' := by
 have HB := aM (Below.refl w.heap.size w)
 have H := h; clear h; unfold spec_BarKeys.f at H
 replace H := jS H; obtain ⟨t302, A2, H⟩ := H
 by_cases c3 : t302 = true
 ·subst c3
  replace H := jT H
  have H' := aM H
  clear H
  go_enter Tryz.func21, Tryz.ntmps21
  go_wp2_with (first | ((with_reducible refine gC 53 rfl ?_); refine gL (some 8) Tryz.func53 #[.int .i64 a0] ?_; (with_reducible refine (spec_keRings.calls a0 true _ A2.out).mono ?_); rintro e w' ⟨rfl, ⟨nd, rfl⟩⟩; refine ⟨_, rfl, ?_⟩))
  go_loopg [4, 5] k (fun kq v4 v5 w' => ∃ (x4_1 : List ByteArray) (x5_1 : Int), v5 = .int .i64 x5_1 ∧ Aside0 (spec_BarKeys.l0 kq a0 x4_1 x5_1 = some (r1, r2)) ∧ Aside0 (kq ≤ k) ∧ Aside0 (Kd.R Kd.string 9 w' w.heap.size (fun _ => True) v4 x4_1) ∧ Aside0 (Below w.heap.size w w'))
  case atStart => exact ⟨(([] : List ByteArray)), (0), rfl, H', ⟨Nat.le_refl _⟩, ⟨by first | exact Kd.R_nil _ _ _ _ _ | exact Kd.N_nil _ _ _ _ _ | exact Kd.V_nil _ _ _ _ _ | exact Kd.Q_nil _ _ _ _ _ | exact Kd.S_nil _ _ _ _ _⟩, ⟨bQ⟩⟩
  case round =>
   clear H'
   obtain ⟨x4_1, x5_1, rfl, HA, HK1, HO_4, HB⟩ := hrel
   cases gk with
   | zero => exact absurd HA.out (by simp [spec_BarKeys.l0])
   | succ k1 =>
    have H := HA.out
    clear HA
    simp only [spec_BarKeys.l0] at H
    replace H := iE H; obtain ⟨c4b0, H⟩ | ⟨c4b0, H⟩ := H
    ·replace H := jS H; obtain ⟨t303, A5, H⟩ := H
     replace H := iE H; obtain ⟨c6b0, H⟩ | ⟨c6b0, H⟩ := H
     ·replace H := jS H; obtain ⟨t304, A7, H⟩ := H
      replace H := iC H; obtain ⟨c8, H⟩ := H
      have c8b0 := eq_true c8
      have c8b1 := decide_eq_true c8
      try (have c8s := c8; simp at c8s)
      try have c8b2 : (9223372036854775807 < t304.size + 1) = False := eq_false (Nat.not_lt.2 c8)
      replace H := iC H; obtain ⟨c9, H⟩ := H
      have c9b0 := eq_true c9
      have c9b1 := decide_eq_true c9
      try (have c9s := c9; simp at c9s)
      try (have c9t : t304.size + 1 + t303.size ≤ 9223372036854775807 := (by have h_ := c9; rw [ByteArray.size_append] at h_; exact h_))
      try (have c9u : (9223372036854775807 < t304.size + 1 + t303.size) = False := eq_false (Nat.not_lt.2 c9t))
      try have c9b2 : (9223372036854775807 < (t304 ++ (⟨#[49]⟩ : ByteArray)).size + t303.size) = False := eq_false (Nat.not_lt.2 c9)
      replace H := iC H; obtain ⟨c10, H⟩ := H
      have LMc10 := aM c10
      clear c10
      obtain ⟨y305, Ny305, h_⟩ := yG (α := List ByteArray) (x4_1 ++ [(t304 ++ (⟨#[49]⟩ : ByteArray)) ++ t303]); rw [← h_] at H; clear h_
      have H' := aM H
      clear H
      go_wp2_with (first | ((with_reducible refine gC 54 rfl ?_); refine gL (some 18) Tryz.func54 #[.int .i64 (wrap64 (a0 - x5_1)), .string (⟨#[63]⟩ : ByteArray)] ?_; (with_reducible refine (spec_riAll.calls k1 (wrap64 (a0 - x5_1)) (⟨#[63]⟩ : ByteArray) t303 _ A5.out).mono ?_); rintro e w' ⟨rfl, ⟨nd, rfl⟩⟩; refine ⟨_, rfl, ?_⟩) | ((with_reducible refine gC 54 rfl ?_); refine gL (some 23) Tryz.func54 #[.int .i64 (wrap64 (x5_1 - 1)), .string (⟨#[48]⟩ : ByteArray)] ?_; (with_reducible refine (spec_riAll.calls k1 (wrap64 (x5_1 - 1)) (⟨#[48]⟩ : ByteArray) t304 _ A7.out).mono ?_); rintro e w' ⟨rfl, ⟨nd, rfl⟩⟩; refine ⟨_, rfl, ?_⟩) | ((with_reducible refine gate_builtin (b := .append) (xs := #[.tmp 27, .tmp 29]) rfl ?_); at_builtin; refine Kd.R_append Kd.string (w0 := w) w.heap.size rfl (.tmp 27) (.tmp 29) 22 9 (.string ⟨#[]⟩) 16 rfl Tryz.underlying22 info9 rfl (by decide) (by omega) u4 x4_1 ((t304 ++ (⟨#[49]⟩ : ByteArray)) ++ t303) [.string ((t304 ++ (⟨#[49]⟩ : ByteArray)) ++ t303)] (fun _ => True) (fun _ => False) rfl rfl ?aP (fun _ hk => hk.elim) ?aF ?aO ?aB ?aS ?aL ?_; (case aP => exact rfl); (case aB => exact bQ); (case aF => exact (fun _ _ => trivial)); (case aO => exact (rQ HO_4.out)); (case aS => exact (below_size bQ)); (case aL => have := LMc10.out; omega); intro v306 w11 ho hb hg hat; rw [← Ny305.out] at ho; replace HB := aM (hb); have HO307 := aM (ho); clear ho hb hg hat))
      go_roundg k1
      case measure => have := HK1.out; omega
      case rel => exact ⟨(y305), (wrap64 (x5_1 + 1)), rfl, H', ⟨by have := HK1.out; omega⟩, HO307, HB⟩
     ·replace H := iC H; obtain ⟨c12, H⟩ := H
      have LMc12 := aM c12
      clear c12
      obtain ⟨y308, Ny308, h_⟩ := yG (α := List ByteArray) (x4_1 ++ [t303]); rw [← h_] at H; clear h_
      have H' := aM H
      clear H
      go_wp2_with (first | ((with_reducible refine gC 54 rfl ?_); refine gL (some 18) Tryz.func54 #[.int .i64 (wrap64 (a0 - x5_1)), .string (⟨#[63]⟩ : ByteArray)] ?_; (with_reducible refine (spec_riAll.calls k1 (wrap64 (a0 - x5_1)) (⟨#[63]⟩ : ByteArray) t303 _ A5.out).mono ?_); rintro e w' ⟨rfl, ⟨nd, rfl⟩⟩; refine ⟨_, rfl, ?_⟩) | ((with_reducible refine gate_builtin (b := .append) (xs := #[.tmp 27, .tmp 29]) rfl ?_); at_builtin; refine Kd.R_append Kd.string (w0 := w) w.heap.size rfl (.tmp 27) (.tmp 29) 22 9 (.string ⟨#[]⟩) 16 rfl Tryz.underlying22 info9 rfl (by decide) (by omega) u4 x4_1 t303 [.string t303] (fun _ => True) (fun _ => False) rfl rfl ?aP (fun _ hk => hk.elim) ?aF ?aO ?aB ?aS ?aL ?_; (case aP => exact rfl); (case aB => exact bQ); (case aF => exact (fun _ _ => trivial)); (case aO => exact (rQ HO_4.out)); (case aS => exact (below_size bQ)); (case aL => have := LMc12.out; omega); intro v309 w13 ho hb hg hat; rw [← Ny308.out] at ho; replace HB := aM (hb); have HO310 := aM (ho); clear ho hb hg hat))
      go_roundg k1
      case measure => have := HK1.out; omega
      case rel => exact ⟨(y308), (wrap64 (x5_1 + 1)), rfl, H', ⟨by have := HK1.out; omega⟩, HO310, HB⟩
    ·simp only [Option.some.injEq, Prod.mk.injEq] at H
     obtain ⟨rfl, rfl⟩ := H
     go_wp2
     go_ret2
     exact ⟨_, rfl, HO_4.out, HB.out⟩
 ·replace c3 := Bool.eq_false_iff.mpr c3
  subst c3
  replace H := jF H
  simp only [Option.some.injEq, Prod.mk.injEq] at H
  obtain ⟨rfl, rfl⟩ := H
  go_enter Tryz.func21, Tryz.ntmps21
  go_wp2_with (first | ((with_reducible refine gC 53 rfl ?_); refine gL (some 8) Tryz.func53 #[.int .i64 a0] ?_; (with_reducible refine (spec_keRings.calls a0 false _ A2.out).mono ?_); rintro e w' ⟨rfl, ⟨nd, rfl⟩⟩; refine ⟨_, rfl, ?_⟩))
  go_ret2
  exact ⟨_, rfl, by first | exact Kd.R_nil _ _ _ _ _ | exact Kd.N_nil _ _ _ _ _ | exact Kd.V_nil _ _ _ _ _ | exact Kd.Q_nil _ _ _ _ _ | exact Kd.S_nil _ _ _ _ _, bQ⟩

/-! ### bits_Mul32: function 106 -/
def bits_Mul32.f (a0 : Int) (a1 : Int) : Option (Int × Int) := some (((IntKind.u64.wrap ((IntKind.u64.wrap (a0)) * (IntKind.u64.wrap (a1)))) / 4294967296) % 4294967296, (IntKind.u64.wrap ((IntKind.u64.wrap (a0)) * (IntKind.u64.wrap (a1)))) % 4294967296)
set_option maxHeartbeats 8000000 in
set_option maxRecDepth 100000 in
theorem bits_Mul32.calls (a0 : Int) (a1 : Int) (r1 : Int) (r2 : Int) (w : World) (h : bits_Mul32.f a0 a1 = some (r1, r2)) :
  Calls Tryz.prog 106 #[.int .u32 a0, .int .u32 a1] w fun e w' => e = .returned (.tuple #[.int .u32 r1, .int .u32 r2]) ∧ Drawn0 w w' := by
 have H := h; clear h; unfold bits_Mul32.f at H
 simp only [Option.some.injEq, Prod.mk.injEq] at H
 obtain ⟨rfl, rfl⟩ := H
 go_enter Tryz.func106, Tryz.ntmps106
 go_wp2
 go_ret2
 exact ⟨rfl, by repeat (first | exact Drawn0.refl _ | apply Drawn0.step)⟩

/-! ### bits_Mul64: function 107 -/
def bits_Mul64.f (a0 : Int) (a1 : Int) : Option (Int × Int) := some (IntKind.u64.wrap ((IntKind.u64.wrap ((IntKind.u64.wrap ((a0 / 4294967296) * (a1 / 4294967296))) + ((IntKind.u64.wrap ((IntKind.u64.wrap ((a0 / 4294967296) * (Go.bits .and .u64 a1 4294967295))) + ((IntKind.u64.wrap ((Go.bits .and .u64 a0 4294967295) * (Go.bits .and .u64 a1 4294967295))) / 4294967296))) / 4294967296))) + ((IntKind.u64.wrap ((Go.bits .and .u64 (IntKind.u64.wrap ((IntKind.u64.wrap ((a0 / 4294967296) * (Go.bits .and .u64 a1 4294967295))) + ((IntKind.u64.wrap ((Go.bits .and .u64 a0 4294967295) * (Go.bits .and .u64 a1 4294967295))) / 4294967296))) 4294967295) + (IntKind.u64.wrap ((Go.bits .and .u64 a0 4294967295) * (a1 / 4294967296))))) / 4294967296)), IntKind.u64.wrap (a0 * a1))
set_option maxHeartbeats 8000000 in
set_option maxRecDepth 100000 in
theorem bits_Mul64.calls (a0 : Int) (a1 : Int) (r1 : Int) (r2 : Int) (w : World) (h : bits_Mul64.f a0 a1 = some (r1, r2)) :
  Calls Tryz.prog 107 #[.int .u64 a0, .int .u64 a1] w fun e w' => e = .returned (.tuple #[.int .u64 r1, .int .u64 r2]) ∧ Drawn0 w w' := by
 have H := h; clear h; unfold bits_Mul64.f at H
 simp only [Option.some.injEq, Prod.mk.injEq] at H
 obtain ⟨rfl, rfl⟩ := H
 go_enter Tryz.func107, Tryz.ntmps107
 go_wp2
 go_ret2
 exact ⟨rfl, by repeat (first | exact Drawn0.refl _ | apply Drawn0.step)⟩

/-! ### bits_Mul: function 82 -/
def bits_Mul.f (a0 : Int) (a1 : Int) : Option (Int × Int) := (bits_Mul64.f a0 a1).bind fun bt311 => (some (bt311.1, bt311.2))
set_option maxHeartbeats 8000000 in
set_option maxRecDepth 100000 in
theorem bits_Mul.calls (a0 : Int) (a1 : Int) (r1 : Int) (r2 : Int) (w : World) (h : bits_Mul.f a0 a1 = some (r1, r2)) :
  Calls Tryz.prog 82 #[.int .u64 a0, .int .u64 a1] w fun e w' => e = .returned (.tuple #[.int .u64 r1, .int .u64 r2]) ∧ Drawn0 w w' := by
 have H := h; clear h; unfold bits_Mul.f at H
 replace H := jS H; obtain ⟨⟨t311, t312⟩, A3, H⟩ := H; dsimp only at H
 simp only [Option.some.injEq, Prod.mk.injEq] at H
 obtain ⟨rfl, rfl⟩ := H
 go_enter Tryz.func82, Tryz.ntmps82
 go_wp2_with (first | ((with_reducible refine gC 107 rfl ?_); refine gL (some 25) Tryz.func107 #[.int .u64 a0, .int .u64 a1] ?_; (with_reducible refine (bits_Mul64.calls a0 a1 t311 t312 _ A3.out).mono ?_); rintro e w' ⟨rfl, ⟨nd, rfl⟩⟩; refine ⟨_, rfl, ?_⟩))
 go_ret2
 exact ⟨rfl, by repeat (first | exact Drawn0.refl _ | apply Drawn0.step)⟩

/-! ### slices_Repeat_string_string: function 55 (told by hand) -/
/-- slices.Repeat of one text, at most ten times. -/
def slices_Repeat_string_string.f (l0 : List ByteArray) (a1 : Int) : Option (List ByteArray) :=
 if l0.length = 1 ∧ 1 ≤ a1 ∧ a1 ≤ 10 then some (List.replicate a1.toNat (l0.getD 0 ByteArray.empty)) else none
/-- The row's cells when so many of them are set. -/
def slices_Repeat_string_string.arr (v : ByteArray) (n m : Nat) : Array Value := (List.replicate m (Value.string v) ++ List.replicate (n - m) (Value.string ByteArray.empty)).toArray
theorem slices_Repeat_string_string.arr_size (v : ByteArray) (n m : Nat) (h : m ≤ n) : (slices_Repeat_string_string.arr v n m).size = n := by simp [slices_Repeat_string_string.arr]; omega
theorem slices_Repeat_string_string.arr_get (v : ByteArray) (n m j : Nat) (h : j < m) : (slices_Repeat_string_string.arr v n m)[j]? = some (.string v) := by
 simp [slices_Repeat_string_string.arr, List.getElem?_append, h]
theorem slices_Repeat_string_string.arr_made (v : ByteArray) (n : Nat) : madeCells (Value.string ByteArray.empty).cells (n * 1) = slices_Repeat_string_string.arr v n 0 := by
 apply Array.ext'
 simp only [madeCells, slices_Repeat_string_string.arr, Nat.mul_one, Array.toList_map, Array.toList_range, List.replicate_zero, List.nil_append, Nat.sub_zero]
 apply List.ext_getElem
 ·simp
 ·intro i h1 h2
  have : i % 1 = 0 := Nat.mod_one i
  simp [Value.cells, this]
theorem slices_Repeat_string_string.arr_step (v : ByteArray) (n m c : Nat) (hm : m + c ≤ n) : ((slices_Repeat_string_string.arr v n m).toList.take m ++ List.replicate c (Value.string v) ++ (slices_Repeat_string_string.arr v n m).toList.drop (m + c)).toArray = slices_Repeat_string_string.arr v n (m + c) := by
 unfold slices_Repeat_string_string.arr
 congr 1
 have e1 : (List.replicate m (Value.string v) ++ List.replicate (n - m) (Value.string ByteArray.empty)).take m = List.replicate m (Value.string v) := by
  rw [List.take_append_of_le_length (by simp)]; simp
 have e2 : (List.replicate m (Value.string v) ++ List.replicate (n - m) (Value.string ByteArray.empty)).drop (m + c) = List.replicate (n - (m + c)) (Value.string ByteArray.empty) := by
  rw [List.drop_append]
  simp [List.drop_of_length_le]
  omega
 simp only
 rw [e1, e2, List.replicate_append_replicate]
theorem slices_Repeat_string_string.new (w : World) (o : Obj) : (w.alloc o).heap[w.heap.size]? = some o := by
 show (w.heap.push o)[w.heap.size]? = some o
 simp
set_option maxHeartbeats 8000000 in
set_option maxRecDepth 100000 in
theorem slices_Repeat_string_string.calls (A0 : Option Addr) (c0 : Nat) (l0 : List ByteArray) (a1 : Int) (r : List ByteArray) (w : World) (hr0 : Kd.C Kd.string w A0 l0.length l0) (hc0 : l0.length ≤ c0) (h : slices_Repeat_string_string.f l0 a1 = some r) :
  Calls Tryz.prog 55 #[.slice A0 l0.length c0, .int .i64 a1] w fun e w' => ∃ v0_ : Value, e = .returned (v0_) ∧ Kd.R Kd.string 9 w' w.heap.size (fun _ => True) v0_ r ∧ Below w.heap.size w w' := by
 unfold slices_Repeat_string_string.f at h
 by_cases c0 : ¬ (l0.length = 1 ∧ 1 ≤ a1 ∧ a1 ≤ 10)
 ·rw [if_neg c0] at h; exact absurd h (by simp)
 replace c0 := Decidable.not_not.mp c0
 rw [if_pos c0] at h
 obtain rfl := Option.some.inj h
 obtain ⟨c1, c2, c3⟩ := c0
 obtain ⟨v, rfl⟩ : ∃ v, l0 = [v] := by
  match l0, c1 with
  | [v], _ => exact ⟨v, rfl⟩
 clear h c1
 obtain ⟨n, rfl⟩ : ∃ n : Nat, a1 = (n : Int) := ⟨a1.toNat, by omega⟩
 have hm : bits_Mul.f 1 (n : Int) = some (0, (n : Int)) := by
  obtain h | h | h | h | h | h | h | h | h | h : n = 1 ∨ n = 2 ∨ n = 3 ∨ n = 4 ∨ n = 5 ∨ n = 6 ∨ n = 7 ∨ n = 8 ∨ n = 9 ∨ n = 10 := by omega
  all_goals (subst h; decide +kernel)
 replace hm := aM hm
 have hu1 : IntKind.u64.wrap (n : Int) = (n : Int) := by simp [IntKind.wrap, IntKind.bits, IntKind.signed]; omega
 have hu2 : IntKind.i64.wrap (n : Int) = (n : Int) := by rw [IntKind.wrap_i64]; omega
 have hu3 : wrap64 (n : Int) = (n : Int) := by unfold wrap64; omega
 have hb0 : decide ((n : Int) < 0) = false := decide_eq_false (by omega)
 obtain ⟨i, hi, hz0, hz1, hz2⟩ := info_parts info9
 have hmk : ∀ W : World, (Instr.makeSlice 22 (.int .i64 (n : Int)) (.int .i64 (n : Int))).run Tryz.prog W = .ok (.slice (some ⟨W.heap.size, 0, none⟩) n n) (W.alloc (.cells (slices_Repeat_string_string.arr v n 0) 9)) := by
  intro W
  have h := run_make (P := Tryz.prog) W 22 9 i (.string ByteArray.empty) Tryz.underlying22 hi hz0 .i64 .i64 (n : Int) (n : Int) (by omega) (by omega) (by rw [hz2]; omega) (by omega)
  rw [hz1] at h
  rw [← slices_Repeat_string_string.arr_made v n]
  exact h
 obtain ⟨ad, e1, hx0⟩ := Kd.at_string hr0 0 (by omega) (by simp)
 cases e1
 have hcp0 : ∀ m : Nat, (Builtin.copy_ #[22, 22] 3 #[.slice (some ⟨w.heap.size, 0, none⟩) n n, .slice (some ad) 1 c0]).run Tryz.prog ((w.drewN m).alloc (.cells (slices_Repeat_string_string.arr v n 0) 9)) =
   .ok (goInt 1) (((w.drewN m).alloc (.cells (slices_Repeat_string_string.arr v n 0) 9)).setRow w.heap.size (slices_Repeat_string_string.arr v n 1)) := by
  intro m
  obtain ⟨ad', e2, hx⟩ := Kd.at_string (Kd.C_alloc (Kd.C_drewN hr0 m) (.cells (slices_Repeat_string_string.arr v n 0) 9)) 0 (by omega) (by simp)
  cases e2
  have hs := slices_Repeat_string_string.arr_step v n 0 1 (by omega)
  have h := run_copy_row Tryz.prog ((w.drewN m).alloc (.cells (slices_Repeat_string_string.arr v n 0) 9)) 22 22 3 9 w.heap.size 0 n n ad 1 c0 (slices_Repeat_string_string.arr v n 0) 9 [.string v]
   Tryz.underlying22 (by rw [hi]; simp [hz1]) (slices_Repeat_string_string.new (w.drewN m) _) (by show 1 = Nat.min 1 n; exact (Nat.min_eq_left (by omega)).symm) (fun j x hj => by
    match j, hj with
    | 0, hj => simp at hj; subst hj; exact hx) (by rw [slices_Repeat_string_string.arr_size _ _ _ (by omega)]; simp; omega) (by simp [Value.oneCell'])
  rw [h]
  congr 2
 clear hr0 hx0
 go_enter Tryz.func55, Tryz.ntmps55
 go_wp2_with (first | (go_at_call 82; (with_reducible refine (bits_Mul.calls 1 (n : Int) 0 (n : Int) _ hm.out).mono ?_); rintro e w' ⟨rfl, ⟨nd, rfl⟩⟩))
 have hb1 : Below w.heap.size w (((w.drewN nd).alloc (.cells (slices_Repeat_string_string.arr v n 0) 9)).setRow w.heap.size (slices_Repeat_string_string.arr v n 1)) := below_setRow (below_alloc (pw_below_drewN (Below.refl _ _) nd) _) (Nat.le_refl _) _
 have hg1 : (((w.drewN nd).alloc (.cells (slices_Repeat_string_string.arr v n 0) 9)).setRow w.heap.size (slices_Repeat_string_string.arr v n 1)).heap[w.heap.size]? = some (.cells (slices_Repeat_string_string.arr v n 1) 9 (0, 0)) :=
  setRow_heap _ _ _ _ _ _ (slices_Repeat_string_string.new (w.drewN nd) _)
 have HB := aM hb1
 have HG := aM hg1
 clear hb1 hg1 hcp0 hm hmk hz0 hz2
 go_loopg [8] (n - 1) (fun kq v8 w' => ∃ m : Nat, v8 = .int .i64 (m : Int) ∧ Aside0 (kq + m = n) ∧ Aside0 (1 ≤ m) ∧ Aside0 (w'.heap[w.heap.size]? = some (.cells (slices_Repeat_string_string.arr v n m) 9 (0, 0))) ∧ Aside0 (Below w.heap.size w w'))
 case atStart => exact ⟨1, rfl, ⟨by omega⟩, ⟨Nat.le_refl _⟩, HG, HB⟩
 case round =>
  clear HG HB
  obtain ⟨m, rfl, HK, H1, HG, HB⟩ := hrel
  by_cases c5 : m < n
  ·have c5b : decide ((m : Int) < (n : Int)) = true := decide_eq_true (by omega)
   have c6 : ((m : Int) ≤ (n : Int)) := by omega
   have c7 : (0 : Int) ≤ (m : Int) := by omega
   obtain ⟨c, hc⟩ : ∃ c, c = min m (n - m) := ⟨_, rfl⟩
   have hc1 : m + c ≤ n := by omega
   have hc2 : c ≤ m := by omega
   have hc3 : 1 ≤ c := by
    have := H1.out
    omega
   have hcp : ∀ W : World, W.heap[w.heap.size]? = some (.cells (slices_Repeat_string_string.arr v n m) 9 (0, 0)) →
     (Builtin.copy_ #[22, 22] 3 #[.slice (some ⟨w.heap.size, m, none⟩) (n - m) (n - m), .slice (some ⟨w.heap.size, 0, none⟩) m n]).run Tryz.prog W = .ok (goInt (c : Int)) (W.setRow w.heap.size (slices_Repeat_string_string.arr v n (m + c))) := by
    intro W hW
    have h := run_copy_row Tryz.prog W 22 22 3 9 w.heap.size m (n - m) (n - m) ⟨w.heap.size, 0, none⟩ m n (slices_Repeat_string_string.arr v n m) 9 (List.replicate c (.string v))
     Tryz.underlying22 (by rw [hi]; simp [hz1]) hW (by rw [List.length_replicate]; exact hc) (fun j x hj => by
      rw [List.getElem?_replicate] at hj
      split at hj
      ·obtain rfl := Option.some.inj hj
       rw [add_plain]
       simp only [World.cell?, hW, Nat.zero_add]
       exact slices_Repeat_string_string.arr_get v n m j (by omega)
      ·cases hj) (by rw [slices_Repeat_string_string.arr_size _ _ _ (by omega), List.length_replicate]; exact hc1) (by
      intro x hx
      rw [List.mem_replicate] at hx
      rw [hx.2]; rfl)
    rw [List.length_replicate, slices_Repeat_string_string.arr_step v n m c hc1] at h
    exact h
   have hk1 : Aside0 (n - (m + c) < gk) := ⟨by have := HK.out; omega⟩
   have hk2 : Aside0 (n - (m + c) + (m + c) = n) := ⟨by omega⟩
   have hk3 : Aside0 (1 ≤ m + c) := ⟨by omega⟩
   have hcp1 := hcp wr.drew HG.out
   have hnm : (n = m) = False := eq_false (by omega)
   have hcs : IntKind.i64.wrap ((m : Int) + (c : Int)) = ((m + c : Nat) : Int) := by rw [IntKind.wrap_i64]; omega
   have hcs2 : wrap64 ((m : Int) + (c : Int)) = ((m + c : Nat) : Int) := by unfold wrap64; omega
   have hg2 := setRow_heap wr.drew w.heap.size _ (slices_Repeat_string_string.arr v n (m + c)) 9 (0, 0) HG.out
   have hb2 : Below w.heap.size w (wr.drew.setRow w.heap.size (slices_Repeat_string_string.arr v n (m + c))) := below_setRow (below_drew1 HB.out) (Nat.le_refl _) _
   have HG2 := aM hg2
   have HB2 := aM hb2
   clear hcp hg2 hb2 hc
   go_wp2
   go_region
   go_wp2
   go_roundg (n - (m + c))
   case measure => exact hk1.out
   case rel => exact ⟨m + c, by rw [Int.natCast_add], hk2, hk3, HG2, HB2⟩
  ·have hmn : m = n := by have := HK.out; omega
   subst hmn
   have c5b : decide ((m : Int) < (m : Int)) = false := decide_eq_false (by omega)
   go_wp2
   go_ret
   have hl : (List.replicate (m : Int).toNat ([v].getD 0 ByteArray.empty)).length = m := by simp
   refine ⟨_, rfl, Kd.R_of_own ⟨by rw [hl]; simp [encs], .inr ⟨w.heap.size, m, slices_Repeat_string_string.arr v m m, by rw [hl]; rfl, Nat.le_refl _, HG.out, by rw [hl]; exact Nat.le_refl _, by simp [maxLen]; omega, by rw [slices_Repeat_string_string.arr_size _ _ _ (Nat.le_refl _), Nat.mul_one], ?_⟩⟩ (fun _ _ => trivial), HB.out⟩
   rw [hl]
   simp [slices_Repeat_string_string.arr, encs]

/-! ### impl_FreeKeys: function 22 -/
def impl_FreeKeys.f (a0 : Int) : Option (List ByteArray × Bool) := (impl_in.f a0 1 10).bind fun t313 => (if t313 = true then ((strings_Repeat.f (⟨#[63]⟩ : ByteArray) a0).bind fun t314 => ((slices_Repeat_string_string.f (([t314] : List ByteArray)) a0).bind fun t318 => (some (t318, true)))) else (some (([] : List ByteArray), false)))
set_option maxHeartbeats 8000000 in
set_option maxRecDepth 100000 in
theorem impl_FreeKeys.calls (a0 : Int) (r1 : List ByteArray) (r2 : Bool) (w : World) (h : impl_FreeKeys.f a0 = some (r1, r2)) :
  Calls Tryz.prog 22 #[.int .i64 a0] w fun e w' => ∃ v0_ : Value, e = .returned (.tuple #[v0_, .bool r2]) ∧ Kd.R Kd.string 9 w' w.heap.size (fun _ => True) v0_ r1 ∧ Below w.heap.size w w' := by
 have HB := aM (Below.refl w.heap.size w)
 have H := h; clear h; unfold impl_FreeKeys.f at H
 replace H := jS H; obtain ⟨t313, A2, H⟩ := H
 by_cases c3 : t313 = true
 ·subst c3
  replace H := jT H
  replace H := jS H; obtain ⟨t314, A4, H⟩ := H
  obtain ⟨y315, Ny315, h_⟩ := yG (α := List ByteArray) (([t314] : List ByteArray)); rw [← h_] at H; clear h_
  replace H := jS H; obtain ⟨t318, A5, H⟩ := H
  simp only [Option.some.injEq, Prod.mk.injEq] at H
  obtain ⟨rfl, rfl⟩ := H
  go_enter Tryz.func22, Tryz.ntmps22
  go_wp2_with (first | ((with_reducible refine gC 50 rfl ?_); refine gL (some 5) Tryz.func50 #[.int .i64 a0, .int .i64 1, .int .i64 10] ?_; (with_reducible refine (impl_in.calls a0 1 10 true _ A2.out).mono ?_); rintro e w' ⟨rfl, ⟨nd, rfl⟩⟩; refine ⟨_, rfl, ?_⟩) | ((with_reducible refine gC 56 rfl ?_); refine gL (some 8) Tryz.func56 #[.string (⟨#[63]⟩ : ByteArray), .int .i64 a0] ?_; (with_reducible refine (strings_Repeat.calls (⟨#[63]⟩ : ByteArray) a0 t314 _ A4.out).mono ?_); rintro e w6 ⟨rfl, hb⟩; refine ⟨_, rfl, ?_⟩; replace HB := aM (below_step bQ hb); (try clear hb)) | ((with_reducible refine gate_dst (N := 9) rfl ?_); refine Kd.R_lit Kd.string _ 9 ?hg (N := 9) ?hd (xs := ([t314] : List ByteArray)) (inner := [.string t314]) (ok := fun _ => True) (okp := fun _ => True) ?hr ?hp (fun _ hk => hk) trivial (Below.refl _ _) (Nat.le_refl _) (by simp) ?_; (case hd => rfl); (case hg => rfl); (case hr => go_simp); (case hp => exact (Reps.one (show Kd.M Kd.string _ _ _ t314 [.string t314] from rfl) (Reps.none _ _))); intro v316 w7 ho8 hb hg_ hnew_; clear hg_ hnew_; rw [← Ny315.out] at ho8; have HO317 := aM (Kd.R_lower ho8 (below_size bQ)); replace HB := aM (below_step bQ hb); clear hb ho8; obtain ⟨Ao9, co9, eo9⟩ := Kd.R_slice HO317.out; subst eo9) | ((with_reducible refine gC 55 rfl ?_); refine gL (some 11) Tryz.func55 #[.slice Ao9 y315.length co9, .int .i64 a0] ?_; (with_reducible refine (slices_Repeat_string_string.calls _ _ y315 a0 t318 _ ?side1 ?side2 A5.out).mono ?_); (case side1 => repeat (first | exact (Kd.R_reads' HO317.out).2.2 | (with_reducible refine cA ?_ _) | (with_reducible refine cN ?_ _) | (with_reducible refine cD ?_))); (case side2 => exact (Kd.R_reads' HO317.out).2.1); rintro e w10 ⟨v319, rfl, ho0, hb⟩; refine ⟨_, rfl, ?_⟩; have HO320 := aM (Kd.R_lower (Kd.R_new' ho0 (Kd.R_lt (rQ HO317.out))) (below_size bQ)); replace HO317 := aM (Kd.R_elder' (rQ HO317.out) (Kd.R_base ho0) hb); replace HB := aM (below_step bQ hb); (try clear hb); (try clear ho0)))
  go_ret2
  exact ⟨_, rfl, by (with_reducible repeat (first | apply rA | apply rN | apply rD)); exact Kd.R_mono HO320.out (fun _ hk => trivial), HB.out⟩
 ·replace c3 := Bool.eq_false_iff.mpr c3
  subst c3
  replace H := jF H
  simp only [Option.some.injEq, Prod.mk.injEq] at H
  obtain ⟨rfl, rfl⟩ := H
  go_enter Tryz.func22, Tryz.ntmps22
  go_wp2_with (first | ((with_reducible refine gC 50 rfl ?_); refine gL (some 5) Tryz.func50 #[.int .i64 a0, .int .i64 1, .int .i64 10] ?_; (with_reducible refine (impl_in.calls a0 1 10 false _ A2.out).mono ?_); rintro e w' ⟨rfl, ⟨nd, rfl⟩⟩; refine ⟨_, rfl, ?_⟩))
  go_ret2
  exact ⟨_, rfl, by first | exact Kd.R_nil _ _ _ _ _ | exact Kd.N_nil _ _ _ _ _ | exact Kd.V_nil _ _ _ _ _ | exact Kd.Q_nil _ _ _ _ _ | exact Kd.S_nil _ _ _ _ _, bQ⟩

/-! ### spec_FreeKeys: function 23 -/
def spec_FreeKeys.l0 : Nat → Int → List ByteArray → Int → Option (List ByteArray × Bool)
 | 0, _, _, _ => none
 | k + 1, x0, x4, x5 => if x5 < x0 then ((spec_riAll.f k x0 (⟨#[63]⟩ : ByteArray)).bind fun t322 => (if x4.length < 8796093022208 then (spec_FreeKeys.l0 k x0 (x4 ++ [t322]) (wrap64 (x5 + 1))) else (none))) else (some (x4, true))
def spec_FreeKeys.f (k : Nat) (a0 : Int) : Option (List ByteArray × Bool) := (spec_keRings.f a0).bind fun t321 => (if t321 = true then (spec_FreeKeys.l0 k a0 ([] : List ByteArray) 0) else (some (([] : List ByteArray), false)))
theorem spec_FreeKeys.mono_l : ∀ k, (∀ y0 y1 y2, LeO (spec_FreeKeys.l0 k y0 y1 y2) (spec_FreeKeys.l0 (k + 1) y0 y1 y2))
 | 0 => fun _ _ _ r h => by simp [spec_FreeKeys.l0] at h
 | k + 1 => by
  have ih0 := spec_FreeKeys.mono_l k
  ·intro y0 y1 y2
   unfold spec_FreeKeys.l0
   with_reducible repeat' first | exact ih0 _ _ _ | exact spec_riAll.mono _ _ _ | exact LeO.refl _ | exact LeO.none _ | refine LeO.ite ?_ ?_ | refine LeO.bind ?_ (fun _ => ?_)
theorem spec_FreeKeys.mono : ∀ a0 k, LeO (spec_FreeKeys.f k a0) (spec_FreeKeys.f (k + 1) a0) := by
 intro a0 k
 have ih0 := spec_FreeKeys.mono_l k
 unfold spec_FreeKeys.f
 with_reducible repeat' first | exact ih0 _ _ _ | exact spec_riAll.mono _ _ _ | exact LeO.refl _ | exact LeO.none _ | refine LeO.ite ?_ ?_ | refine LeO.bind ?_ (fun _ => ?_)
set_option maxHeartbeats 8000000 in
set_option maxRecDepth 100000 in
theorem spec_FreeKeys.calls (k : Nat) (a0 : Int) (r1 : List ByteArray) (r2 : Bool) (w : World) (h : spec_FreeKeys.f k a0 = some (r1, r2)) :
  Calls Tryz.prog 23 #[.int .i64 a0] w fun e w' => ∃ v0_ : Value, e = .returned (.tuple #[v0_, .bool r2]) ∧ Kd.R Kd.string 9 w' w.heap.size (fun _ => True) v0_ r1 ∧ Below w.heap.size w w' := by
 have HB := aM (Below.refl w.heap.size w)
 have H := h; clear h; unfold spec_FreeKeys.f at H
 replace H := jS H; obtain ⟨t321, A2, H⟩ := H
 by_cases c3 : t321 = true
 ·subst c3
  replace H := jT H
  have H' := aM H
  clear H
  go_enter Tryz.func23, Tryz.ntmps23
  go_wp2_with (first | ((with_reducible refine gC 53 rfl ?_); refine gL (some 7) Tryz.func53 #[.int .i64 a0] ?_; (with_reducible refine (spec_keRings.calls a0 true _ A2.out).mono ?_); rintro e w' ⟨rfl, ⟨nd, rfl⟩⟩; refine ⟨_, rfl, ?_⟩))
  go_loopg [4, 5] k (fun kq v4 v5 w' => ∃ (x4_1 : List ByteArray) (x5_1 : Int), v5 = .int .i64 x5_1 ∧ Aside0 (spec_FreeKeys.l0 kq a0 x4_1 x5_1 = some (r1, r2)) ∧ Aside0 (kq ≤ k) ∧ Aside0 (Kd.R Kd.string 9 w' w.heap.size (fun _ => True) v4 x4_1) ∧ Aside0 (Below w.heap.size w w'))
  case atStart => exact ⟨(([] : List ByteArray)), (0), rfl, H', ⟨Nat.le_refl _⟩, ⟨by first | exact Kd.R_nil _ _ _ _ _ | exact Kd.N_nil _ _ _ _ _ | exact Kd.V_nil _ _ _ _ _ | exact Kd.Q_nil _ _ _ _ _ | exact Kd.S_nil _ _ _ _ _⟩, ⟨bQ⟩⟩
  case round =>
   clear H'
   obtain ⟨x4_1, x5_1, rfl, HA, HK1, HO_4, HB⟩ := hrel
   cases gk with
   | zero => exact absurd HA.out (by simp [spec_FreeKeys.l0])
   | succ k1 =>
    have H := HA.out
    clear HA
    simp only [spec_FreeKeys.l0] at H
    replace H := iE H; obtain ⟨c4b0, H⟩ | ⟨c4b0, H⟩ := H
    ·replace H := jS H; obtain ⟨t322, A5, H⟩ := H
     replace H := iC H; obtain ⟨c6, H⟩ := H
     have LMc6 := aM c6
     clear c6
     obtain ⟨y323, Ny323, h_⟩ := yG (α := List ByteArray) (x4_1 ++ [t322]); rw [← h_] at H; clear h_
     have H' := aM H
     clear H
     go_wp2_with (first | ((with_reducible refine gC 54 rfl ?_); refine gL (some 16) Tryz.func54 #[.int .i64 a0, .string (⟨#[63]⟩ : ByteArray)] ?_; (with_reducible refine (spec_riAll.calls k1 a0 (⟨#[63]⟩ : ByteArray) t322 _ A5.out).mono ?_); rintro e w' ⟨rfl, ⟨nd, rfl⟩⟩; refine ⟨_, rfl, ?_⟩) | ((with_reducible refine gate_builtin (b := .append) (xs := #[.tmp 14, .tmp 17]) rfl ?_); at_builtin; refine Kd.R_append Kd.string (w0 := w) w.heap.size rfl (.tmp 14) (.tmp 17) 22 9 (.string ⟨#[]⟩) 16 rfl Tryz.underlying22 info9 rfl (by decide) (by omega) u4 x4_1 t322 [.string t322] (fun _ => True) (fun _ => False) rfl rfl ?aP (fun _ hk => hk.elim) ?aF ?aO ?aB ?aS ?aL ?_; (case aP => exact rfl); (case aB => exact bQ); (case aF => exact (fun _ _ => trivial)); (case aO => exact (rQ HO_4.out)); (case aS => exact (below_size bQ)); (case aL => have := LMc6.out; omega); intro v324 w7 ho hb hg hat; rw [← Ny323.out] at ho; replace HB := aM (hb); have HO325 := aM (ho); clear ho hb hg hat))
     go_roundg k1
     case measure => have := HK1.out; omega
     case rel => exact ⟨(y323), (wrap64 (x5_1 + 1)), rfl, H', ⟨by have := HK1.out; omega⟩, HO325, HB⟩
    ·simp only [Option.some.injEq, Prod.mk.injEq] at H
     obtain ⟨rfl, rfl⟩ := H
     go_wp2
     go_ret2
     exact ⟨_, rfl, HO_4.out, HB.out⟩
 ·replace c3 := Bool.eq_false_iff.mpr c3
  subst c3
  replace H := jF H
  simp only [Option.some.injEq, Prod.mk.injEq] at H
  obtain ⟨rfl, rfl⟩ := H
  go_enter Tryz.func23, Tryz.ntmps23
  go_wp2_with (first | ((with_reducible refine gC 53 rfl ?_); refine gL (some 7) Tryz.func53 #[.int .i64 a0] ?_; (with_reducible refine (spec_keRings.calls a0 false _ A2.out).mono ?_); rintro e w' ⟨rfl, ⟨nd, rfl⟩⟩; refine ⟨_, rfl, ?_⟩))
  go_ret2
  exact ⟨_, rfl, by first | exact Kd.R_nil _ _ _ _ _ | exact Kd.N_nil _ _ _ _ _ | exact Kd.V_nil _ _ _ _ _ | exact Kd.Q_nil _ _ _ _ _ | exact Kd.S_nil _ _ _ _ _, bQ⟩

/-! ### spec_l1Split: function 85 -/
def spec_l1Split.l0 : Nat → ByteArray → Int → List ByteArray → Int → Int → Option (List ByteArray)
 | 0, _, _, _, _, _ => none
 | k + 1, x0, x1, x5, x6, x7 => if x7 < (x0.size : Int) then (if 0 ≤ x7 then (if (bt x0 x7) = x1 then (if 0 ≤ x6 then (if x6 ≤ x7 then (if x7 ≤ (x0.size : Int) then (if x5.length < 8796093022208 then (spec_l1Split.l0 k x0 x1 (x5 ++ [x0.extract (x6 : Int).toNat (x7 : Int).toNat]) (wrap64 (x7 + 1)) (wrap64 (x7 + 1))) else (none)) else (none)) else (none)) else (none)) else (spec_l1Split.l0 k x0 x1 x5 x6 (wrap64 (x7 + 1)))) else (none)) else (if 0 ≤ x6 then (if x6 ≤ (x0.size : Int) then (if x5.length < 8796093022208 then (some (x5 ++ [x0.extract (x6 : Int).toNat x0.size])) else (none)) else (none)) else (none))
def spec_l1Split.f (k : Nat) (a0 : ByteArray) (a1 : Int) : Option (List ByteArray) := spec_l1Split.l0 k a0 a1 ([] : List ByteArray) 0 0
theorem spec_l1Split.mono_l : ∀ k, (∀ y0 y1 y2 y3 y4, LeO (spec_l1Split.l0 k y0 y1 y2 y3 y4) (spec_l1Split.l0 (k + 1) y0 y1 y2 y3 y4))
 | 0 => fun _ _ _ _ _ r h => by simp [spec_l1Split.l0] at h
 | k + 1 => by
  have ih0 := spec_l1Split.mono_l k
  ·intro y0 y1 y2 y3 y4
   unfold spec_l1Split.l0
   with_reducible repeat' first | exact ih0 _ _ _ _ _ | exact LeO.refl _ | exact LeO.none _ | refine LeO.ite ?_ ?_ | refine LeO.bind ?_ (fun _ => ?_)
theorem spec_l1Split.mono : ∀ a0 a1 k, LeO (spec_l1Split.f k a0 a1) (spec_l1Split.f (k + 1) a0 a1) := by
 intro a0 a1 k
 have ih0 := spec_l1Split.mono_l k
 unfold spec_l1Split.f
 with_reducible repeat' first | exact ih0 _ _ _ _ _ | exact LeO.refl _ | exact LeO.none _ | refine LeO.ite ?_ ?_ | refine LeO.bind ?_ (fun _ => ?_)
set_option maxHeartbeats 8000000 in
set_option maxRecDepth 100000 in
theorem spec_l1Split.calls (k : Nat) (a0 : ByteArray) (a1 : Int) (r : List ByteArray) (w : World) (h : spec_l1Split.f k a0 a1 = some r) :
  Calls Tryz.prog 85 #[.string a0, .int .u8 a1] w fun e w' => ∃ v0_ : Value, e = .returned (v0_) ∧ Kd.R Kd.string 9 w' w.heap.size (fun _ => True) v0_ r ∧ Below w.heap.size w w' := by
 have HB := aM (Below.refl w.heap.size w)
 have H := h; clear h; unfold spec_l1Split.f at H
 have H' := aM H
 clear H
 go_enter Tryz.func85, Tryz.ntmps85
 go_wp2
 go_loopg [5, 6, 7] k (fun kq v5 v6 v7 w' => ∃ (x5_1 : List ByteArray) (x6_1 : Int) (x7_1 : Int), v6 = .int .i64 x6_1 ∧ v7 = .int .i64 x7_1 ∧ Aside0 (spec_l1Split.l0 kq a0 a1 x5_1 x6_1 x7_1 = some r) ∧ Aside0 (kq ≤ k) ∧ Aside0 (Kd.R Kd.string 9 w' w.heap.size (fun _ => True) v5 x5_1) ∧ Aside0 (Below w.heap.size w w'))
 case atStart => exact ⟨(([] : List ByteArray)), (0), (0), rfl, rfl, H', ⟨Nat.le_refl _⟩, ⟨by first | exact Kd.R_nil _ _ _ _ _ | exact Kd.N_nil _ _ _ _ _ | exact Kd.V_nil _ _ _ _ _ | exact Kd.Q_nil _ _ _ _ _ | exact Kd.S_nil _ _ _ _ _⟩, HB⟩
 case round =>
  clear H'
  obtain ⟨x5_1, x6_1, x7_1, rfl, rfl, HA, HK1, HO_5, HB⟩ := hrel
  cases gk with
  | zero => exact absurd HA.out (by simp [spec_l1Split.l0])
  | succ k1 =>
   have H := HA.out
   clear HA
   simp only [spec_l1Split.l0] at H
   replace H := iO H; obtain ⟨c3, H⟩ | ⟨c3, H⟩ := H
   ·have c3b0 := decide_eq_true c3
    clear c3
    replace H := iC H; obtain ⟨c4, H⟩ := H
    have c4b0 := decide_eq_true c4
    clear c4
    replace H := iO H; obtain ⟨c6, H⟩ | ⟨c6, H⟩ := H
    ·have c6b0 : ((bt a0 x7_1) == a1) = true := beq_iff_eq.mpr c6
     have c6b1 : ((bt a0 x7_1) != a1) = false := bne_eq_false_iff_eq.mpr c6
     clear c6
     replace H := iC H; obtain ⟨c7, H⟩ := H
     have c7b0 := eq_true c7
     have c7b1 := decide_eq_true c7
     clear c7
     replace H := iC H; obtain ⟨c8, H⟩ := H
     have c8b0 := eq_true c8
     have c8b1 := decide_eq_true c8
     clear c8
     replace H := iT H; obtain ⟨c9b0, c9b1, H⟩ := H
     replace H := iC H; obtain ⟨c10, H⟩ := H
     have LMc10 := aM c10
     clear c10
     obtain ⟨y326, Ny326, h_⟩ := yG (α := List ByteArray) (x5_1 ++ [a0.extract (x6_1 : Int).toNat (x7_1 : Int).toNat]); rw [← h_] at H; clear h_
     have H' := aM H
     clear H; have p5 : 0 ≤ (x7_1 : Int) := oD; have q5 : x7_1 < (a0.size : Int) := oD
     have hx5 := bt_at a0 x7_1
     replace p5 := eq_true p5; replace q5 := eq_true q5
     go_wp2_with (first | ((with_reducible refine gate_builtin (b := .append) (xs := #[.tmp 19, .tmp 24]) rfl ?_); at_builtin; refine Kd.R_append Kd.string (w0 := w) w.heap.size rfl (.tmp 19) (.tmp 24) 22 9 (.string ⟨#[]⟩) 16 rfl Tryz.underlying22 info9 rfl (by decide) (by omega) u5 x5_1 (a0.extract (x6_1 : Int).toNat (x7_1 : Int).toNat) [.string (a0.extract (x6_1 : Int).toNat (x7_1 : Int).toNat)] (fun _ => True) (fun _ => False) rfl rfl ?aP (fun _ hk => hk.elim) ?aF ?aO ?aB ?aS ?aL ?_; (case aP => exact rfl); (case aB => exact HB.out); (case aF => exact (fun _ _ => trivial)); (case aO => exact HO_5.out); (case aS => exact (below_size HB.out)); (case aL => have := LMc10.out; omega); intro v327 w11 ho hb hg hat; rw [← Ny326.out] at ho; replace HB := aM (hb); have HO328 := aM (ho); clear ho hb hg hat))
     go_roundg k1
     case measure => have := HK1.out; omega
     case rel => exact ⟨(y326), (wrap64 (x7_1 + 1)), (wrap64 (x7_1 + 1)), rfl, rfl, H', ⟨by have := HK1.out; omega⟩, HO328, HB⟩
    ·have c6b0 : ((bt a0 x7_1) == a1) = false := beq_eq_false_iff_ne.mpr c6
     have c6b1 : ((bt a0 x7_1) != a1) = true := bne_iff_ne.mpr c6
     have H' := aM H
     clear H; have p5 : 0 ≤ (x7_1 : Int) := oD; have q5 : x7_1 < (a0.size : Int) := oD
     have hx5 := bt_at a0 x7_1
     replace p5 := eq_true p5; replace q5 := eq_true q5
     go_wp2
     go_roundg k1
     case measure => have := HK1.out; omega
     case rel => exact ⟨(x5_1), (x6_1), (wrap64 (x7_1 + 1)), rfl, rfl, H', ⟨by have := HK1.out; omega⟩, HO_5, HB⟩
   ·have c3b0 := decide_eq_false c3
    clear c3
    replace H := iC H; obtain ⟨c12, H⟩ := H
    have c12b0 := eq_true c12
    have c12b1 := decide_eq_true c12
    clear c12
    replace H := iT H; obtain ⟨c13b0, c13b1, H⟩ := H
    replace H := iC H; obtain ⟨c14, H⟩ := H
    have LMc14 := aM c14
    clear c14
    obtain ⟨y329, Ny329, h_⟩ := yG (α := List ByteArray) (x5_1 ++ [a0.extract (x6_1 : Int).toNat a0.size]); rw [← h_] at H; clear h_
    obtain rfl := Option.some.inj H
    go_wp2_with (first | ((with_reducible refine gate_builtin (b := .append) (xs := #[.tmp 28, .tmp 32]) rfl ?_); at_builtin; refine Kd.R_append Kd.string (w0 := w) w.heap.size rfl (.tmp 28) (.tmp 32) 22 9 (.string ⟨#[]⟩) 16 rfl Tryz.underlying22 info9 rfl (by decide) (by omega) u5 x5_1 (a0.extract (x6_1 : Int).toNat a0.size) [.string (a0.extract (x6_1 : Int).toNat a0.size)] (fun _ => True) (fun _ => False) rfl rfl ?aP (fun _ hk => hk.elim) ?aF ?aO ?aB ?aS ?aL ?_; (case aP => exact rfl); (case aB => exact HB.out); (case aF => exact (fun _ _ => trivial)); (case aO => exact HO_5.out); (case aS => exact (below_size HB.out)); (case aL => have := LMc14.out; omega); intro v330 w15 ho hb hg hat; rw [← Ny329.out] at ho; replace HB := aM (hb); have HO331 := aM (ho); clear ho hb hg hat))
    go_ret
    exact ⟨_, rfl, HO331.out, HB.out⟩
/-! ### spec_keParse: function 57 -/
def spec_keParse.f (k : Nat) (a0 : ByteArray) : Option (List ByteArray × Bool) := if (a0.size : Int) > 110 then (some (([] : List ByteArray), false)) else ((spec_l1Split.f k a0 47).bind fun t332 => ((spec_keGood.f k t332).bind fun t335 => (if t335 = true then (some (t332, true)) else (some (([] : List ByteArray), false)))))
theorem spec_keParse.mono : ∀ a0 k, LeO (spec_keParse.f k a0) (spec_keParse.f (k + 1) a0) := by
 intro a0 k
 unfold spec_keParse.f
 with_reducible repeat' first | exact spec_keGood.mono _ _ | exact spec_l1Split.mono _ _ _ | exact LeO.refl _ | exact LeO.none _ | refine LeO.ite ?_ ?_ | refine LeO.bind ?_ (fun _ => ?_)
set_option maxHeartbeats 8000000 in
set_option maxRecDepth 100000 in
theorem spec_keParse.calls (k : Nat) (a0 : ByteArray) (r1 : List ByteArray) (r2 : Bool) (w : World) (h : spec_keParse.f k a0 = some (r1, r2)) :
  Calls Tryz.prog 57 #[.string a0] w fun e w' => ∃ v0_ : Value, e = .returned (.tuple #[v0_, .bool r2]) ∧ Kd.R Kd.string 9 w' w.heap.size (fun _ => True) v0_ r1 ∧ Below w.heap.size w w' := by
 have HB := aM (Below.refl w.heap.size w)
 have H := h; clear h; unfold spec_keParse.f at H
 replace H := iO H; obtain ⟨c2, H⟩ | ⟨c2, H⟩ := H
 ·have c2b0 := decide_eq_true c2
  have c2b1 : decide (110 < a0.size) = true := decide_eq_true (by omega)
  clear c2
  simp only [Option.some.injEq, Prod.mk.injEq] at H
  obtain ⟨rfl, rfl⟩ := H
  go_enter Tryz.func57, Tryz.ntmps57
  go_wp2
  go_ret2
  exact ⟨_, rfl, by first | exact Kd.R_nil _ _ _ _ _ | exact Kd.N_nil _ _ _ _ _ | exact Kd.V_nil _ _ _ _ _ | exact Kd.Q_nil _ _ _ _ _ | exact Kd.S_nil _ _ _ _ _, HB.out⟩
 ·have c2b0 := decide_eq_false c2
  have c2b1 : decide (110 < a0.size) = false := decide_eq_false (by omega)
  clear c2
  replace H := jS H; obtain ⟨t332, A3, H⟩ := H
  replace H := jS H; obtain ⟨t335, A4, H⟩ := H
  by_cases c5 : t335 = true
  ·subst c5
   replace H := jT H
   simp only [Option.some.injEq, Prod.mk.injEq] at H
   obtain ⟨rfl, rfl⟩ := H
   go_enter Tryz.func57, Tryz.ntmps57
   go_wp2_with (first | ((with_reducible refine gC 85 rfl ?_); refine gL (some 9) Tryz.func85 #[.string a0, .int .u8 47] ?_; (with_reducible refine (spec_l1Split.calls k a0 47 t332 _ A3.out).mono ?_); rintro e w6 ⟨v333, rfl, ho0, hb⟩; refine ⟨_, rfl, ?_⟩; have HO334 := aM (Kd.R_lower ho0 (below_size HB.out)); replace HB := aM (below_step HB.out hb); (try clear hb); (try clear ho0); obtain ⟨Ao7, co7, eo7⟩ := Kd.R_slice HO334.out; subst eo7) | ((with_reducible refine gC 35 rfl ?_); refine gL (some 11) Tryz.func35 #[.slice Ao7 t332.length co7] ?_; (with_reducible refine (spec_keGood.calls k _ _ t332 true _ ?side1 ?side2 A4.out).mono ?_); (case side1 => repeat (first | exact (Kd.R_reads' HO334.out).2.2 | (with_reducible refine cA ?_ _) | (with_reducible refine cN ?_ _) | (with_reducible refine cD ?_))); (case side2 => exact (Kd.R_reads' HO334.out).2.1); rintro e w' ⟨rfl, ⟨nd, rfl⟩⟩; refine ⟨_, rfl, ?_⟩))
   go_ret2
   exact ⟨_, rfl, rQ HO334.out, bQ⟩
  ·replace c5 := Bool.eq_false_iff.mpr c5
   subst c5
   replace H := jF H
   simp only [Option.some.injEq, Prod.mk.injEq] at H
   obtain ⟨rfl, rfl⟩ := H
   go_enter Tryz.func57, Tryz.ntmps57
   go_wp2_with (first | ((with_reducible refine gC 85 rfl ?_); refine gL (some 9) Tryz.func85 #[.string a0, .int .u8 47] ?_; (with_reducible refine (spec_l1Split.calls k a0 47 t332 _ A3.out).mono ?_); rintro e w8 ⟨v333, rfl, ho0, hb⟩; refine ⟨_, rfl, ?_⟩; have HO334 := aM (Kd.R_lower ho0 (below_size HB.out)); replace HB := aM (below_step HB.out hb); (try clear hb); (try clear ho0); obtain ⟨Ao9, co9, eo9⟩ := Kd.R_slice HO334.out; subst eo9) | ((with_reducible refine gC 35 rfl ?_); refine gL (some 11) Tryz.func35 #[.slice Ao9 t332.length co9] ?_; (with_reducible refine (spec_keGood.calls k _ _ t332 false _ ?side1 ?side2 A4.out).mono ?_); (case side1 => repeat (first | exact (Kd.R_reads' HO334.out).2.2 | (with_reducible refine cA ?_ _) | (with_reducible refine cN ?_ _) | (with_reducible refine cD ?_))); (case side2 => exact (Kd.R_reads' HO334.out).2.1); rintro e w' ⟨rfl, ⟨nd, rfl⟩⟩; refine ⟨_, rfl, ?_⟩))
   go_ret2
   exact ⟨_, rfl, by first | exact Kd.R_nil _ _ _ _ _ | exact Kd.N_nil _ _ _ _ _ | exact Kd.V_nil _ _ _ _ _ | exact Kd.Q_nil _ _ _ _ _ | exact Kd.S_nil _ _ _ _ _, bQ⟩

/-! ### spec_ParseKeys: function 24 -/
def spec_ParseKeys.f (k : Nat) (a0 : ByteArray) : Option (List ByteArray × Bool) := (spec_keParse.f k a0).bind fun bt336 => (some (bt336.1, bt336.2))
theorem spec_ParseKeys.mono : ∀ a0 k, LeO (spec_ParseKeys.f k a0) (spec_ParseKeys.f (k + 1) a0) := by
 intro a0 k
 unfold spec_ParseKeys.f
 with_reducible repeat' first | exact spec_keParse.mono _ _ | exact LeO.refl _ | exact LeO.none _ | refine LeO.ite ?_ ?_ | refine LeO.bind ?_ (fun _ => ?_)
set_option maxHeartbeats 8000000 in
set_option maxRecDepth 100000 in
theorem spec_ParseKeys.calls (k : Nat) (a0 : ByteArray) (r1 : List ByteArray) (r2 : Bool) (w : World) (h : spec_ParseKeys.f k a0 = some (r1, r2)) :
  Calls Tryz.prog 24 #[.string a0] w fun e w' => ∃ v0_ : Value, e = .returned (.tuple #[v0_, .bool r2]) ∧ Kd.R Kd.string 9 w' w.heap.size (fun _ => True) v0_ r1 ∧ Below w.heap.size w w' := by
 have HB := aM (Below.refl w.heap.size w)
 have H := h; clear h; unfold spec_ParseKeys.f at H
 replace H := jS H; obtain ⟨⟨t336, t337⟩, A2, H⟩ := H; dsimp only at H
 simp only [Option.some.injEq, Prod.mk.injEq] at H
 obtain ⟨rfl, rfl⟩ := H
 go_enter Tryz.func24, Tryz.ntmps24
 go_wp2_with (first | ((with_reducible refine gC 57 rfl ?_); refine gL (some 5) Tryz.func57 #[.string a0] ?_; (with_reducible refine (spec_keParse.calls k a0 t336 t337 _ A2.out).mono ?_); rintro e w3 ⟨v338, rfl, ho0, hb⟩; refine ⟨_, rfl, ?_⟩; have HO339 := aM (Kd.R_lower ho0 (below_size HB.out)); replace HB := aM (below_step HB.out hb); (try clear hb); (try clear ho0)))
 go_ret2
 exact ⟨_, rfl, HO339.out, HB.out⟩

end Go.Proofs.YtbmbehkdidlolaaGreatDoor.PT
