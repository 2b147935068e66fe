/-
  What the printed functions on bolts come to, in plain words: the reference's and the program's alike.
-/
import Derived.Test.YtehhfcbhoaocdaaPPx1
import Derived.Test.YtehhfcbhoaocdaaPPx2
import Derived.Test.YtehhfcbhoaocdaaPPx3
import Derived.Test.YtehhfcbhoaocdaaPPx4
import Derived.Test.YtehhfcbhoaocdaaPPx5
import Derived.Test.YtehhfcbhoaocdaaPPx6
import Derived.Test.YtehhfcbhoaocdaaPPx7
import Derived.Test.YtehhfcbhoaocdaaPPx8
import Derived.Test.YtehhfcbhoaocdaaPPx9
import Derived.Test.YtehhfcbhoaocdaaPPx10
import Derived.Test.YtehhfcbhoaocdaaPPx11
import Derived.Test.YtehhfcbhoaocdaaPPx12
import Derived.Test.YtehhfcbhoaocdaaPPx13
import Derived.Lib.LazyBuf
namespace Go.Proofs.Ytehhfcbhoaocdaa.Lem
open Go.RowKit Go.Proofs.Ytehhfcbhoaocdaa.PP Go.Proofs.YtehhfcbhoaocdaaW.PrintWords Go.Proofs.YtehhfcbhoaocdaaW.PrintLast Go.Proofs.YtehhfcbhoaocdaaW.PrintMore
set_option linter.unusedVariables false
set_option linter.unusedSimpArgs false

/-- Not by 'rfl': the kernel then needn't compute with the long numerals. -/
theorem obind {α β : Type} (a : α) (f : α → Option β) : (some a).bind f = f a := by rw [Option.bind_some]
theorem w64 {n : Int} (h1 : -9223372036854775808 ≤ n) (h2 : n ≤ 9223372036854775807) : wrap64 n = n := by unfold wrap64; omega
theorem succ64 {n : Nat} (h : n < 4611686018427387904) : wrap64 ((n : Int) + 1) = ((n + 1 : Nat) : Int) := by rw [w64 (by omega) (by omega)]; omega
theorem size_eq (s : ByteArray) : s.size = s.data.toList.length := by rw [Array.length_toList]; rfl
theorem ev_num {α β : Type} {f : Nat → Option β} {t : β} {g h : Nat → Option α} {r : α} (hn : Ev f t) (hh : Ev h r) (he : ∀ k, f k = some t → g (k + 1) = h k) : Ev g r := by
  obtain ⟨K1, h1⟩ := hn
  obtain ⟨K2, h2⟩ := hh
  refine ⟨max K1 K2 + 1, fun n hn => ?_⟩
  obtain ⟨k, rfl⟩ : ∃ k, n = k + 1 := ⟨n - 1, by omega⟩
  rw [he k (h1 k (by omega))]
  exact h2 k (by omega)
theorem in_eq (a b c : Int) : impl_in.f a b c = some (decide (b ≤ a ∧ a ≤ c)) := by
  unfold impl_in.f
  by_cases h1 : a ≥ b
  · rw [if_pos h1]
    have h1' : b ≤ a := h1
    by_cases h2 : a ≤ c
    · simp [h1', h2]
    · simp [h2]
  · rw [if_neg h1]
    have h1' : ¬ b ≤ a := h1
    simp [h1']
theorem l1In_eq (a b c : Int) : spec_l1In.f a b c = some (decide (b ≤ a ∧ a ≤ c)) := in_eq a b c
theorem rd_get {l : List Int} {i : Nat} (h : i < l.length) : rd l (i : Int) = l[i] := by
  show l.getD i 0 = l[i]
  simp [List.getD, h]
theorem rdB_get {l : List S77} {i : Nat} (h : i < l.length) : rd_T77 l (i : Int) = l[i] := by
  show l.getD i _ = l[i]
  simp [List.getD, h]
theorem rdS_get {l : List ByteArray} {i : Nat} (h : i < l.length) : rdOf ByteArray.empty l (i : Int) = l[i] := by
  show l.getD i _ = l[i]
  simp [List.getD, h]
/-- A loop that asks for all of so many. -/
theorem ev_all (g : Nat → Int → Option Bool) (p : Nat → Bool) (n : Nat)
    (h1 : ∀ i, i < n → p i = true → ∀ r, Ev (fun k => g k ((i + 1 : Nat) : Int)) r → Ev (fun k => g k (i : Int)) r)
    (h0 : ∀ i, i < n → p i = false → Ev (fun k => g k (i : Int)) false) (he : Ev (fun k => g k (n : Int)) true) :
    ∀ d i, i + d = n → Ev (fun k => g k (i : Int)) ((List.range' i d).all p) := by
  intro d
  induction d with
  | zero =>
    intro i hi
    have : i = n := by omega
    subst this
    exact he
  | succ d ih =>
    intro i hi
    rw [List.range'_succ, List.all_cons]
    cases hp : p i with
    | true => exact h1 i (by omega) hp _ (by rw [Bool.true_and]; exact ih (i + 1) (by omega))
    | false => rw [Bool.false_and]; exact h0 i (by omega) hp
theorem all_range {α : Type} (l : List α) (q : α → Bool) (p : Nat → Bool) (h : ∀ i (hi : i < l.length), p i = q l[i]) : (List.range' 0 l.length).all p = l.all q := by
  rw [Bool.eq_iff_iff, List.all_eq_true, List.all_eq_true]
  constructor
  · intro g x hx
    obtain ⟨i, hi, rfl⟩ := List.getElem_of_mem hx
    rw [← h i hi]
    exact g i (by simp [List.mem_range'_1, hi])
  · intro g i hi
    simp [List.mem_range'_1] at hi
    rw [h i hi]
    exact g _ (List.getElem_mem hi)

/-! ### Searching by a function value -/
theorem index_int {rule : Nat → Int → Option Bool} {q : Int → Bool} (l : List Int) (hl : l.length < 4611686018427387904) (hq : ∀ x ∈ l, Ev (fun k => rule k x) (q x)) :
    ∀ d i, i + d = l.length → ∃ t : Int, Ev (fun k => slices_IndexFunc_int_int.l0 rule k l (l.length : Int) (i : Int)) t ∧ decide (0 ≤ t) = (l.drop i).any q := by
  intro d
  induction d with
  | zero =>
    intro i hi
    refine ⟨-1, Ev.step (f := fun _ => some (-1)) (fun k => ?_) (Ev.now _), by rw [List.drop_eq_nil_of_le (by omega)]; rfl⟩
    simp only [slices_IndexFunc_int_int.l0]
    rw [if_neg (by omega)]
  | succ d ih =>
    intro i hi
    have hil : i < l.length := by omega
    have hd := List.drop_eq_getElem_cons hil
    have hlt : (i : Int) < (l.length : Int) := Int.ofNat_lt.2 hil
    have hx := hq l[i] (List.getElem_mem hil)
    cases hb : q l[i] with
    | true =>
      rw [hb] at hx
      refine ⟨(i : Int), ev_num hx (Ev.now (i : Int)) (fun k hk => ?_), by rw [hd, List.any_cons, hb]; simp⟩
      simp only [slices_IndexFunc_int_int.l0]
      rw [if_pos hlt, if_pos (Int.natCast_nonneg _), if_pos hlt, rd_get hil, hk, obind, if_pos rfl]
    | false =>
      rw [hb] at hx
      obtain ⟨t, h1, h2⟩ := ih (i + 1) (by omega)
      refine ⟨t, ev_num hx h1 (fun k hk => ?_), by rw [hd, List.any_cons, hb, Bool.false_or]; exact h2⟩
      simp only [slices_IndexFunc_int_int.l0]
      rw [if_pos hlt, if_pos (Int.natCast_nonneg _), if_pos hlt, rd_get hil, hk, obind, if_neg (by simp), succ64 (by omega)]
theorem contains_int {rule : Nat → Int → Option Bool} {q : Int → Bool} (l : List Int) (hl : l.length < 4611686018427387904) (hq : ∀ x ∈ l, Ev (fun k => rule k x) (q x)) : Ev (fun k => slices_ContainsFunc_int_int.f rule k l) (l.any q) := by
  obtain ⟨t, h1, h2⟩ := index_int l hl hq l.length 0 (Nat.zero_add _)
  rw [List.drop_zero] at h2
  rw [← h2]
  exact Ev.bind (f := fun _ t => some (decide (0 ≤ t))) h1 (Ev.now _)
theorem index_str {rule : Nat → ByteArray → Option Bool} {q : ByteArray → Bool} (l : List ByteArray) (hl : l.length < 4611686018427387904) (hq : ∀ x ∈ l, Ev (fun k => rule k x) (q x)) :
    ∀ d i, i + d = l.length → ∃ t : Int, Ev (fun k => slices_IndexFunc_string_string.l0 rule k l (l.length : Int) (i : Int)) t ∧ decide (0 ≤ t) = (l.drop i).any q := by
  intro d
  induction d with
  | zero =>
    intro i hi
    refine ⟨-1, Ev.step (f := fun _ => some (-1)) (fun k => ?_) (Ev.now _), by rw [List.drop_eq_nil_of_le (by omega)]; rfl⟩
    simp only [slices_IndexFunc_string_string.l0]
    rw [if_neg (by omega)]
  | succ d ih =>
    intro i hi
    have hil : i < l.length := by omega
    have hd := List.drop_eq_getElem_cons hil
    have hlt : (i : Int) < (l.length : Int) := Int.ofNat_lt.2 hil
    have hx := hq l[i] (List.getElem_mem hil)
    cases hb : q l[i] with
    | true =>
      rw [hb] at hx
      refine ⟨(i : Int), ev_num hx (Ev.now (i : Int)) (fun k hk => ?_), by rw [hd, List.any_cons, hb]; simp⟩
      simp only [slices_IndexFunc_string_string.l0]
      rw [if_pos hlt, if_pos (Int.natCast_nonneg _), if_pos hlt, rdS_get hil, hk, obind, if_pos rfl]
    | false =>
      rw [hb] at hx
      obtain ⟨t, h1, h2⟩ := ih (i + 1) (by omega)
      refine ⟨t, ev_num hx h1 (fun k hk => ?_), by rw [hd, List.any_cons, hb, Bool.false_or]; exact h2⟩
      simp only [slices_IndexFunc_string_string.l0]
      rw [if_pos hlt, if_pos (Int.natCast_nonneg _), if_pos hlt, rdS_get hil, hk, obind, if_neg (by simp), succ64 (by omega)]
abbrev Blk := S77
theorem index_blk {rule : Nat → Int → Int → Int → Int → Option Bool} {q : Blk → Bool} (l : List Blk) (hl : l.length < 4611686018427387904) (hq : ∀ x ∈ l, Ev (fun k => rule k x.f0 x.f1 x.f2 x.f3) (q x)) :
    ∀ d i, i + d = l.length → ∃ t : Int, Ev (fun k => impl_Block_65.l0 rule k l (l.length : Int) (i : Int)) t ∧ decide (0 ≤ t) = (l.drop i).any q := by
  intro d
  induction d with
  | zero =>
    intro i hi
    refine ⟨-1, Ev.step (f := fun _ => some (-1)) (fun k => ?_) (Ev.now _), by rw [List.drop_eq_nil_of_le (by omega)]; rfl⟩
    simp only [impl_Block_65.l0]
    rw [if_neg (by omega)]
  | succ d ih =>
    intro i hi
    have hil : i < l.length := by omega
    have hd := List.drop_eq_getElem_cons hil
    have hlt : (i : Int) < (l.length : Int) := Int.ofNat_lt.2 hil
    have hx := hq l[i] (List.getElem_mem hil)
    cases hb : q l[i] with
    | true =>
      rw [hb] at hx
      refine ⟨(i : Int), ev_num hx (Ev.now (i : Int)) (fun k hk => ?_), by rw [hd, List.any_cons, hb]; simp⟩
      simp only [impl_Block_65.l0]
      rw [if_pos hlt, if_pos (Int.natCast_nonneg _), if_pos hlt, rdB_get hil, hk, obind, if_pos rfl]
    | false =>
      rw [hb] at hx
      obtain ⟨t, h1, h2⟩ := ih (i + 1) (by omega)
      refine ⟨t, ev_num hx h1 (fun k hk => ?_), by rw [hd, List.any_cons, hb, Bool.false_or]; exact h2⟩
      simp only [impl_Block_65.l0]
      rw [if_pos hlt, if_pos (Int.natCast_nonneg _), if_pos hlt, rdB_get hil, hk, obind, if_neg (by simp), succ64 (by omega)]
theorem contains_blk {rule : Nat → Int → Int → Int → Int → Option Bool} {q : Blk → Bool} (l : List Blk) (hl : l.length < 4611686018427387904) (hq : ∀ x ∈ l, Ev (fun k => rule k x.f0 x.f1 x.f2 x.f3) (q x)) : Ev (fun k => slices_ContainsFunc_Block.f rule k l) (l.any q) := by
  obtain ⟨t, h1, h2⟩ := index_blk l hl hq l.length 0 (Nat.zero_add _)
  rw [List.drop_zero] at h2
  rw [← h2]
  exact Ev.bind (f := fun _ t => some (decide (0 ≤ t))) h1 (Ev.now _)

/-! ### Bolts -/
def prodW (a : Int) (l : List Int) : Int := l.foldl (fun a x => wrap64 (a * x)) a
theorem count_l0 (l : List Int) (hl : l.length < 4611686018427387904) : ∀ d i a, i + d = l.length → Ev (fun k => spec_boCount.l0 k a l (l.length : Int) (i : Int)) (prodW a (l.drop i)) := by
  intro d
  induction d with
  | zero =>
    intro i a hi
    rw [List.drop_eq_nil_of_le (by omega)]
    refine Ev.step (f := fun _ => some a) (fun k => ?_) (Ev.now _)
    simp only [spec_boCount.l0]
    rw [if_neg (by omega)]
  | succ d ih =>
    intro i a hi
    have hil : i < l.length := by omega
    have hlt : (i : Int) < (l.length : Int) := Int.ofNat_lt.2 hil
    rw [List.drop_eq_getElem_cons hil]
    refine Ev.step (fun k => ?_) (ih (i + 1) (wrap64 (a * l[i])) (by omega))
    simp only [spec_boCount.l0]
    rw [if_pos hlt, if_pos (Int.natCast_nonneg _), if_pos hlt, rd_get hil, succ64 (by omega)]
theorem boCount (l : List Int) (bl : List Blk) (hl : l.length < 4611686018427387904) : Ev (fun k => spec_boCount.f k l bl) (prodW 1 l) := by
  have := count_l0 l hl l.length 0 1 (Nat.zero_add _)
  rw [List.drop_zero] at this
  exact this
theorem prod_l0 (l : List Int) (hl : l.length < 4611686018427387904) : ∀ d i a, i + d = l.length → Ev (fun k => impl_product.l0 k a l (l.length : Int) (i : Int)) (prodW a (l.drop i)) := by
  intro d
  induction d with
  | zero =>
    intro i a hi
    rw [List.drop_eq_nil_of_le (by omega)]
    refine Ev.step (f := fun _ => some a) (fun k => ?_) (Ev.now _)
    simp only [impl_product.l0]
    rw [if_neg (by omega)]
  | succ d ih =>
    intro i a hi
    have hil : i < l.length := by omega
    have hlt : (i : Int) < (l.length : Int) := Int.ofNat_lt.2 hil
    rw [List.drop_eq_getElem_cons hil]
    refine Ev.step (fun k => ?_) (ih (i + 1) (wrap64 (a * l[i])) (by omega))
    simp only [impl_product.l0]
    rw [if_pos hlt, if_pos (Int.natCast_nonneg _), if_pos hlt, rd_get hil, succ64 (by omega)]
theorem product (l : List Int) (hl : l.length < 4611686018427387904) : Ev (fun k => impl_product.f k l) (prodW 1 l) := by
  have := prod_l0 l hl l.length 0 1 (Nat.zero_add _)
  rw [List.drop_zero] at this
  exact this
/-- Whether a block is one of bolts. -/
def blockB (pl : List Int) (bl : List Blk) (b : Blk) : Bool := (spec_boBlock.f pl bl b.f0 b.f1 b.f2 b.f3).getD false
theorem boBlock (pl : List Int) (bl : List Blk) (b : Blk) (hl : pl.length < 4611686018427387904) : spec_boBlock.f pl bl b.f0 b.f1 b.f2 b.f3 = some (blockB pl bl b) := by
  have key : ∃ t, spec_boBlock.f pl bl b.f0 b.f1 b.f2 b.f3 = some t := by
    unfold spec_boBlock.f
    simp only [l1In_eq, obind]
    have hw : wrap64 ((pl.length : Int) - 1) = (pl.length : Int) - 1 := w64 (by omega) (by omega)
    rw [hw]
    by_cases h1 : decide (0 ≤ b.f0 ∧ b.f0 ≤ (pl.length : Int) - 1) = true
    · rw [if_pos h1]
      by_cases h2 : decide (0 ≤ b.f2 ∧ b.f2 ≤ (pl.length : Int) - 1) = true
      · rw [if_pos h2]
        rw [decide_eq_true_eq] at h1 h2
        by_cases h3 : b.f0 = b.f2
        · rw [if_pos h3]; exact ⟨_, rfl⟩
        · rw [if_neg h3, if_pos h1.1, if_pos (by omega)]
          split
          · rw [if_pos h2.1, if_pos (by omega)]; exact ⟨_, rfl⟩
          · exact ⟨_, rfl⟩
      · rw [if_neg h2]; exact ⟨_, rfl⟩
    · rw [if_neg h1]; exact ⟨_, rfl⟩
  obtain ⟨t, ht⟩ := key
  unfold blockB
  rw [ht]; rfl
theorem isBlock (pl : List Int) (bl : List Blk) (b : Blk) (hl : pl.length < 4611686018427387904) : impl_Bolts_isBlock.f pl bl b.f0 b.f1 b.f2 b.f3 = some (blockB pl bl b) := boBlock pl bl b hl
theorem block_in {pl : List Int} {bl : List Blk} {b : Blk} (hl : pl.length < 4611686018427387904) (h : blockB pl bl b = true) : (0 ≤ b.f0 ∧ b.f0 < (pl.length : Int)) ∧ (0 ≤ b.f2 ∧ b.f2 < (pl.length : Int)) := by
  have hb := boBlock pl bl b hl
  rw [h] at hb
  unfold spec_boBlock.f at hb
  simp only [l1In_eq, obind] at hb
  have hw : wrap64 ((pl.length : Int) - 1) = (pl.length : Int) - 1 := w64 (by omega) (by omega)
  rw [hw] at hb
  by_cases h1 : decide (0 ≤ b.f0 ∧ b.f0 ≤ (pl.length : Int) - 1) = true
  · rw [if_pos h1] at hb
    by_cases h2 : decide (0 ≤ b.f2 ∧ b.f2 ≤ (pl.length : Int) - 1) = true
    · rw [decide_eq_true_eq] at h1 h2
      exact ⟨⟨h1.1, by omega⟩, h2.1, by omega⟩
    · rw [if_neg h2] at hb; cases hb
  · rw [if_neg h1] at hb; cases hb
/-- Whether there are bolts. -/
def goodB (pl : List Int) (bl : List Blk) : Bool :=
  decide (1 ≤ pl.length ∧ pl.length ≤ 6) && (pl.all (fun x => decide (2 ≤ x ∧ x ≤ 5)) && (decide (bl.length ≤ 40) && (decide (prodW 1 pl ≤ 1000) && bl.all (blockB pl bl))))
theorem l1All (pl : List Int) (hl : pl.length < 4611686018427387904) : Ev (fun k => spec_l1All.f k pl 2 5) (pl.all (fun x => decide (2 ≤ x ∧ x ≤ 5))) := by
  have h := ev_all (fun k i => spec_l1All.l0 k 2 5 pl (pl.length : Int) i) (fun i => (pl[i]?).any (fun x => decide (2 ≤ x ∧ x ≤ 5))) pl.length ?_ ?_ ?_ pl.length 0 (Nat.zero_add _)
  · rw [all_range pl (fun x => decide (2 ≤ x ∧ x ≤ 5)) _ (fun i hi => by rw [List.getElem?_eq_getElem hi]; rfl)] at h
    exact h
  · intro i hi hp r hr
    rw [List.getElem?_eq_getElem hi] at hp
    refine Ev.step (fun k => ?_) hr
    simp only [spec_l1All.l0]
    rw [if_pos (Int.ofNat_lt.2 hi), if_pos (Int.natCast_nonneg _), if_pos (Int.ofNat_lt.2 hi), rd_get hi, l1In_eq, obind, if_pos (by simpa using hp), succ64 (by omega)]
  · intro i hi hp
    rw [List.getElem?_eq_getElem hi] at hp
    refine Ev.step (f := fun _ => some false) (fun k => ?_) (Ev.now _)
    simp only [spec_l1All.l0]
    rw [if_pos (Int.ofNat_lt.2 hi), if_pos (Int.natCast_nonneg _), if_pos (Int.ofNat_lt.2 hi), rd_get hi, l1In_eq, obind, if_neg (by simpa using hp)]
  · refine Ev.step (f := fun _ => some true) (fun k => ?_) (Ev.now _)
    simp only [spec_l1All.l0]
    rw [if_neg (Int.lt_irrefl _)]
theorem good_l0 (pl : List Int) (bl : List Blk) (hl : pl.length < 4611686018427387904) (hb : bl.length < 4611686018427387904) : Ev (fun k => spec_boGood.l0 k bl (bl.length : Int) 0 pl bl) (bl.all (blockB pl bl)) := by
  have h := ev_all (fun k i => spec_boGood.l0 k bl (bl.length : Int) i pl bl) (fun i => (bl[i]?).any (blockB pl bl)) bl.length ?_ ?_ ?_ bl.length 0 (Nat.zero_add _)
  · rw [all_range bl (blockB pl bl) _ (fun i hi => by rw [List.getElem?_eq_getElem hi]; rfl)] at h
    exact h
  · intro i hi hp r hr
    rw [List.getElem?_eq_getElem hi] at hp
    refine Ev.step (fun k => ?_) hr
    simp only [spec_boGood.l0]
    rw [if_pos (Int.ofNat_lt.2 hi), if_pos (Int.natCast_nonneg _), if_pos (Int.ofNat_lt.2 hi), rdB_get hi, boBlock pl bl _ hl, obind, if_pos (by simpa using hp), succ64 (by omega)]
  · intro i hi hp
    rw [List.getElem?_eq_getElem hi] at hp
    refine Ev.step (f := fun _ => some false) (fun k => ?_) (Ev.now _)
    simp only [spec_boGood.l0]
    rw [if_pos (Int.ofNat_lt.2 hi), if_pos (Int.natCast_nonneg _), if_pos (Int.ofNat_lt.2 hi), rdB_get hi, boBlock pl bl _ hl, obind, if_neg (by simpa using hp)]
  · refine Ev.step (f := fun _ => some true) (fun k => ?_) (Ev.now _)
    simp only [spec_boGood.l0]
    rw [if_neg (Int.lt_irrefl _)]
theorem boGood (pl : List Int) (bl : List Blk) (hl : pl.length ≤ 1048576) (hb : bl.length ≤ 1048576) : Ev (fun k => spec_boGood.f k pl bl) (goodB pl bl) := by
  have jt : Ev (fun k => spec_boGood.j0 k true pl bl) false := Ev.step (f := fun _ => some false) (fun k => by simp only [spec_boGood.j0]; rw [if_pos trivial]) (Ev.now _)
  unfold spec_boGood.f goodB
  refine Ev.congr (fun k => by rw [l1In_eq, obind]) ?_
  by_cases h1 : 1 ≤ pl.length ∧ pl.length ≤ 6
  · refine Ev.congr (fun k => if_pos (by rw [decide_eq_true_eq]; omega)) ?_
    rw [decide_eq_true h1, Bool.true_and]
    refine Ev.bind (l1All pl (by omega)) ?_
    cases h2 : pl.all (fun x => decide (2 ≤ x ∧ x ≤ 5)) with
    | false => exact Ev.congr (fun k => if_neg (by simp)) jt
    | true =>
      rw [Bool.true_and]
      refine Ev.congr (fun k => if_pos rfl) ?_
      by_cases h3 : bl.length ≤ 40
      · have hg : decide ((bl.length : Int) > 40) = false := decide_eq_false (by omega)
        rw [hg, decide_eq_true h3, Bool.true_and]
        refine ev_num (boCount pl bl (by omega)) ?_ (fun k hk => by simp only [spec_boGood.j0]; rw [if_neg (by simp), hk, obind])
        by_cases h4 : prodW 1 pl ≤ 1000
        · rw [decide_eq_true h4, Bool.true_and]
          exact Ev.congr (fun k => if_neg (by omega)) (good_l0 pl bl (by omega) (by omega))
        · rw [decide_eq_false h4, Bool.false_and]
          exact Ev.congr (fun k => if_pos (by omega)) (Ev.now _)
      · have hg : decide ((bl.length : Int) > 40) = true := decide_eq_true (by omega)
        rw [hg, decide_eq_false h3, Bool.false_and]
        exact jt
  · rw [decide_eq_false h1, Bool.false_and]
    exact Ev.congr (fun k => if_neg (by rw [decide_eq_true_eq]; omega)) jt
theorem any_not {α : Type} (l : List α) (p : α → Bool) : (l.any fun x => !p x) = !(l.all p) := by
  induction l with
  | nil => rfl
  | cons a l ih => rw [List.any_cons, List.all_cons, ih, Bool.not_and]
theorem areBolts (pl : List Int) (bl : List Blk) (hl : pl.length ≤ 1048576) (hb : bl.length ≤ 1048576) : Ev (fun k => impl_AreBolts.f k pl bl) (goodB pl bl) := by
  have jt : Ev (fun k => impl_AreBolts.j0 k true pl bl) false := Ev.step (f := fun _ => some false) (fun k => by simp only [impl_AreBolts.j0]; rw [if_pos trivial]) (Ev.now _)
  unfold impl_AreBolts.f goodB
  refine Ev.congr (fun k => by rw [in_eq, obind]) ?_
  by_cases h1 : 1 ≤ pl.length ∧ pl.length ≤ 6
  · refine Ev.congr (fun k => if_pos (by rw [decide_eq_true_eq]; omega)) ?_
    rw [decide_eq_true h1, Bool.true_and]
    by_cases h3 : bl.length ≤ 40
    · refine Ev.congr (fun k => if_neg (by omega)) ?_
      have hc : Ev (fun k => slices_ContainsFunc_int_int.f impl_AreBolts_1.rule k pl) (!(pl.all (fun x => decide (2 ≤ x ∧ x ≤ 5)))) := by
        rw [← any_not]
        refine contains_int pl (by omega) (fun x _ => ?_)
        unfold impl_AreBolts_1.rule impl_AreBolts_1.f
        rw [in_eq, obind]
        exact Ev.now _
      refine Ev.bind hc ?_
      rw [decide_eq_true h3, Bool.true_and]
      cases h2 : pl.all (fun x => decide (2 ≤ x ∧ x ≤ 5)) with
      | false => exact jt
      | true =>
        rw [Bool.true_and]
        refine ev_num (product pl (by omega)) ?_ (fun k hk => by simp only [impl_AreBolts.j0]; rw [if_neg (by simp), hk, obind])
        by_cases h4 : prodW 1 pl ≤ 1000
        · rw [decide_eq_true h4, Bool.true_and]
          refine Ev.congr (fun k => if_pos h4) ?_
          have hd : Ev (fun k => slices_ContainsFunc_Block.f (impl_AreBolts_2.rule pl bl) k bl) (!(bl.all (blockB pl bl))) := by
            rw [← any_not]
            refine contains_blk bl (by omega) (fun x _ => ?_)
            unfold impl_AreBolts_2.rule
            rw [isBlock pl bl x (by omega), obind]
            exact Ev.now _
          refine Ev.bind (f := fun _ t => some (!t)) hd ?_
          rw [Bool.not_not]
          exact Ev.now _
        · rw [decide_eq_false h4, Bool.false_and]
          exact Ev.congr (fun k => if_neg h4) (Ev.now _)
    · rw [decide_eq_false h3, Bool.false_and, Bool.and_false]
      exact Ev.congr (fun k => if_pos (by omega)) jt
  · rw [decide_eq_false h1, Bool.false_and]
    exact Ev.congr (fun k => if_neg (by rw [decide_eq_true_eq]; omega)) jt
end Go.Proofs.Ytehhfcbhoaocdaa.Lem
