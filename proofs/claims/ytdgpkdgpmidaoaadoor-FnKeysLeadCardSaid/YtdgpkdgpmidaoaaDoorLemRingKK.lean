/-
  What the printed functions on rings come to: the reference's and the program's alike.
-/
import Derived.Test.YtdgpkdgpmidaoaaDoorPKx1
import Derived.Test.YtdgpkdgpmidaoaaDoorPKx2
import Derived.Test.YtdgpkdgpmidaoaaDoorPKx3
import Derived.Test.YtdgpkdgpmidaoaaDoorPKx4
import Derived.Test.YtdgpkdgpmidaoaaDoorPKx5
import Derived.Test.YtdgpkdgpmidaoaaDoorPKx6
import Derived.Test.YtdgpkdgpmidaoaaDoorPKx7
import Derived.Test.YtdgpkdgpmidaoaaDoorPKx8
import Derived.Test.YtdgpkdgpmidaoaaDoorPKx9
import Derived.Test.YtdgpkdgpmidaoaaDoorPKx10
import Derived.Test.YtdgpkdgpmidaoaaDoorPair
import Derived.Lib.SlTrimSet
import Derived.Lib.LazyBuf
namespace Go.Proofs.YtdgpkdgpmidaoaaDoor.Lem
open Go.RowKit Go.Proofs.YtdgpkdgpmidaoaaDoor.PK Go.Proofs.YtdgpkdgpmidaoaaDoorW.PrintWords Go.Proofs.YtdgpkdgpmidaoaaDoorW.PrintLast Go.Proofs.YtdgpkdgpmidaoaaDoorW.PrintMore Go.Proofs.YtdgpkdgpmidaoaaDoor.Ring
set_option linter.unusedVariables false
set_option linter.unusedSimpArgs false

theorem obind {α β : Type} (a : α) (f : α → Option β) : (some a).bind f = f a := by rw [Option.bind_some]
theorem w64 {n : Int} (h1 : -9223372036854775808 ≤ n) (h2 : n ≤ 9223372036854775807) : wrap64 n = n := by unfold wrap64; omega
theorem size_eq (s : ByteArray) : s.size = s.data.toList.length := by rw [Array.length_toList]; rfl
theorem bt_drop {s : ByteArray} {i : Nat} {c : UInt8} {m : List UInt8} (h : s.data.toList.drop i = c :: m) : i < s.size ∧ bt s (i : Int) = (c.toNat : Int) ∧ s.data.toList.drop (i + 1) = m := by
  have hi : i < s.data.toList.length := by
    apply Nat.lt_of_not_le
    intro hle
    rw [List.drop_eq_nil_of_le hle] at h
    cases h
  rw [List.drop_eq_getElem_cons hi] at h
  injection h with h1 h2
  have hs : i < s.size := by rw [size_eq]; exact hi
  refine ⟨hs, ?_, h2⟩
  unfold bt
  rw [dif_pos (show (i : Int).toNat < s.size by simpa using hs)]
  rw [← h1]
  rfl
theorem bt_get {s : ByteArray} {i : Nat} (hi : i < s.data.toList.length) : bt s (i : Int) = (s.data.toList[i].toNat : Int) :=
  (bt_drop (List.drop_eq_getElem_cons hi)).2.1
theorem toNat_eq {c : UInt8} {n : Nat} (hn : n < 256) : ((c.toNat : Int) = (n : Int)) ↔ c = UInt8.ofNat n := by
  constructor
  · intro h
    have h' : c.toNat = n := by omega
    rw [← h']
    simp
  · intro h
    subst h
    simp
    omega
theorem is48 (c : UInt8) : ((c.toNat : Int) = 48) ↔ c = 48 := toNat_eq (n := 48) (by decide)
theorem is49 (c : UInt8) : ((c.toNat : Int) = 49) ↔ c = 49 := toNat_eq (n := 49) (by decide)

theorem in_eq (a b c : Int) : impl_in.f a b c = some (decide (b ≤ a ∧ a ≤ c)) := by
  unfold impl_in.f
  by_cases h1 : a ≥ b
  · rw [if_pos h1]
    have h1' : b ≤ a := h1
    by_cases h2 : a ≤ c
    · simp [h1', h2]
    · simp [h2]
  · rw [if_neg h1]
    have h1' : ¬ b ≤ a := h1
    simp [h1']
theorem l1In_eq (a b c : Int) : spec_l1In.f a b c = some (decide (b ≤ a ∧ a ≤ c)) := in_eq a b c

theorem riGood_l0 (s : ByteArray) (hs : s.size ≤ 20) : ∀ (m : List UInt8) (i k : Nat), s.data.toList.drop i = m → m.length < k → spec_riGood.l0 k s (i : Int) = some (m.all okc) := by
  intro m
  induction m with
  | nil =>
    intro i k h hk
    obtain ⟨k, rfl⟩ : ∃ j, k = j + 1 := ⟨k - 1, by omega⟩
    have := List.drop_eq_nil_iff.1 h
    have e := size_eq s
    simp only [spec_riGood.l0]
    rw [if_neg (by omega)]
    rfl
  | cons c m ih =>
    intro i k h hk
    obtain ⟨k, rfl⟩ : ∃ j, k = j + 1 := ⟨k - 1, by omega⟩
    obtain ⟨h1, h2, h3⟩ := bt_drop h
    simp only [spec_riGood.l0]
    simp only [List.length_cons] at hk
    rw [if_pos (by omega), if_pos (by omega), h2]
    have e : wrap64 ((i : Int) + 1) = ((i + 1 : Nat) : Int) := by rw [w64 (by omega) (by omega)]; omega
    rw [e, ih (i + 1) k h3 (by omega)]
    simp only [is48, is49, List.all_cons, okc]
    by_cases h4 : c = 48
    · simp [h4]
    · by_cases h5 : c = 49
      · simp [h5]
      · simp [h4, h5]
theorem riGood_mono (s : ByteArray) : ∀ k, LeO (spec_riGood.f k s) (spec_riGood.f (k + 1) s) := fun k => spec_riGood.mono s k
theorem riGood (s : ByteArray) : Ev (fun k => spec_riGood.f k s) (isSt s.data.toList) := by
  refine Ev.of (k := 21) (riGood_mono s) ?_
  unfold spec_riGood.f isSt
  rw [l1In_eq, ← size_eq]
  simp only [obind]
  by_cases h1 : 1 ≤ s.size
  · by_cases h2 : s.size ≤ 20
    · rw [if_pos (by simp; omega)]
      have := riGood_l0 s h2 s.data.toList 0 21 rfl (by have := size_eq s; omega)
      rw [show ((0 : Nat) : Int) = 0 from rfl] at this
      rw [this]
      simp [h1, h2]
    · rw [if_neg (by simp; omega)]
      simp [h2]
  · rw [if_neg (by simp; omega)]
    simp [h1]

theorem dropWhile_nil {p : UInt8 → Bool} : ∀ {l : List UInt8}, l.dropWhile p = [] ↔ l.all p = true
  | [] => by simp
  | c :: l => by
    rw [List.dropWhile_cons]
    by_cases h : p c = true
    · rw [if_pos h, dropWhile_nil]; simp [h]
    · rw [if_neg h]; simp [h]
theorem dropWhile_head {p : UInt8 → Bool} {l m : List UInt8} {c : UInt8} (h : l.dropWhile p = c :: m) : p c = false := by
  induction l with
  | nil => simp at h
  | cons d l ih =>
    rw [List.dropWhile_cons] at h
    by_cases hd : p d = true
    · rw [if_pos hd] at h; exact ih h
    · rw [if_neg hd] at h
      injection h with h1 _
      subst h1
      exact Bool.eq_false_iff.2 hd
theorem trimS_nil (l cs : List UInt8) : Lib.trimS l cs = [] ↔ l.all (cs.contains ·) = true := by
  unfold Lib.trimS Lib.trimLeftS Lib.trimRightS
  rw [dropWhile_nil]
  constructor
  · intro h
    cases e : l.reverse.dropWhile (cs.contains ·) with
    | nil => rw [dropWhile_nil] at e; simpa using e
    | cons c m =>
      have := dropWhile_head e
      rw [e] at h
      simp only [List.reverse_cons, List.all_append, List.all_cons, List.all_nil, Bool.and_true, Bool.and_eq_true] at h
      rw [h.2] at this
      cases this
  · intro h
    have : l.reverse.dropWhile (cs.contains ·) = [] := by rw [dropWhile_nil]; simpa using h
    rw [this]
    rfl
theorem trim_eq (s : ByteArray) (cs : List UInt8) (hs : s.size ≤ 9223372036854775807) (hc : cs.length < 4294967281) (ha : cs.all (fun b => decide (b.toNat < 128)) = true) :
    strings_Trim.f s ⟨cs.toArray⟩ = some ⟨(Lib.trimS s.data.toList cs).toArray⟩ := by
  unfold strings_Trim.f
  rw [if_pos ⟨hs, by rw [size_eq]; simpa using hc, by simpa using ha⟩]
theorem toList_nil (l : List UInt8) : ((⟨l.toArray⟩ : ByteArray).toList == ([] : List UInt8)) = decide (l = []) := by
  rw [Lib.toList_data]
  cases l <;> simp
theorem isState (s : ByteArray) : impl_IsState.f s = some (isSt s.data.toList) := by
  unfold impl_IsState.f isSt
  rw [in_eq, ← size_eq]
  simp only [obind]
  by_cases h1 : 1 ≤ s.size
  · by_cases h2 : s.size ≤ 20
    · rw [if_pos (by simp; omega)]
      rw [show (⟨#[48, 49]⟩ : ByteArray) = ⟨[48, 49].toArray⟩ from rfl, trim_eq s [48, 49] (by omega) (by decide) (by decide)]
      simp only [obind]
      rw [toList_nil]
      have e : (s.data.toList.all ([48, 49].contains ·)) = s.data.toList.all okc := by
        congr 1
        funext c
        simp only [okc, List.contains_cons, List.contains_nil, Bool.or_false]
      rw [show decide (Lib.trimS s.data.toList [48, 49] = []) = (s.data.toList.all ([48, 49].contains ·)) from by
        rw [Bool.eq_iff_iff]; simpa using trimS_nil s.data.toList [48, 49], e]
      simp [h1, h2]
    · rw [if_neg (by simp; omega)]
      simp [h2]
  · rw [if_neg (by simp; omega)]
    simp [h1]

theorem isSt_len {l : List UInt8} (h : isSt l = true) : 1 ≤ l.length ∧ l.length ≤ 20 ∧ l.all okc = true := by
  simpa [isSt, and_assoc] using h
theorem num_le {l : List UInt8} (h : l.length ≤ 20) : num l < 1048576 := by
  have := num_lt l
  have : 2 ^ l.length ≤ 2 ^ 20 := Nat.pow_le_pow_right (by decide) h
  have e : 2 ^ 20 = 1048576 := rfl
  omega
theorem riNumber_l0 (s : ByteArray) (hs : s.data.toList.length ≤ 20) : ∀ (j k : Nat), j ≤ s.data.toList.length → j < k →
    spec_riNumber.l0 k s (num (s.data.toList.drop j) : Int) (dig (s.data.toList.drop j) : Int) ((j : Int) - 1) = some (num s.data.toList : Int) := by
  intro j
  induction j with
  | zero =>
    intro k _ hk
    obtain ⟨k, rfl⟩ : ∃ j, k = j + 1 := ⟨k - 1, by omega⟩
    simp only [spec_riNumber.l0]
    rw [if_neg (by omega)]
    rfl
  | succ j ih =>
    intro k hj hk
    obtain ⟨k, rfl⟩ : ∃ j, k = j + 1 := ⟨k - 1, by omega⟩
    have e := size_eq s
    have hlt : j < s.data.toList.length := by omega
    have hb := bt_get hlt
    have hd := List.drop_eq_getElem_cons hlt
    have h1 : num (s.data.toList.drop (j + 1)) < 1048576 := num_le (by rw [List.length_drop]; omega)
    have h2 := dig_lt (s.data.toList.drop (j + 1))
    have h3 := ih k (by omega) (by omega)
    have ei : ((j + 1 : Nat) : Int) - 1 = (j : Int) := by omega
    have ew : wrap64 ((j : Int) - 1) = (j : Int) - 1 := w64 (by omega) (by omega)
    simp only [spec_riNumber.l0]
    rw [ei, if_pos (by omega), if_pos (by omega), if_pos (by omega), hb, ew]
    simp only [is49]
    rw [hd, num, dig] at h3
    by_cases hc : s.data.toList[j] = 49
    · rw [if_pos hc]
      rw [if_pos hc] at h3
      rw [← h3]
      congr 1
      · rw [w64 (n := 2 * _) (by omega) (by omega), w64 (n := 1 - _) (by omega) (by omega), w64 (by omega) (by omega)]; omega
      · rw [w64 (by omega) (by omega)]; omega
    · rw [if_neg hc]
      rw [if_neg hc] at h3
      rw [← h3]
      congr 1
      rw [w64 (n := 2 * _) (by omega) (by omega), w64 (by omega) (by omega)]; omega
theorem riNumber (s : ByteArray) (hs : s.data.toList.length ≤ 20) : Ev (fun k => spec_riNumber.f k s) (num s.data.toList : Int) := by
  refine Ev.of (k := 21) (fun k => spec_riNumber.mono s k) ?_
  have h := riNumber_l0 s hs s.data.toList.length 21 (Nat.le_refl _) (by omega)
  rw [List.drop_length] at h
  unfold spec_riNumber.f
  have e := size_eq s
  rw [w64 (by omega) (by omega), e]
  exact h
theorem wrap_i64 {n : Int} (h1 : -9223372036854775808 ≤ n) (h2 : n ≤ 9223372036854775807) : IntKind.i64.wrap n = n := by
  rw [IntKind.wrap_i64]
  omega
theorem and_one (a : Nat) (ha : a < 4611686018427387904) : Go.bits .and .i64 (a : Int) 1 = ((a % 2 : Nat) : Int) := by
  have h := (bits_nat .i64 62 (by decide) (fun n h0 h1 => wrap_i64 (by omega) (by have : (2 : Int) ^ 62 = 4611686018427387904 := rfl; omega)) a 1 (by omega) (by omega)).1
  rw [Nat.and_one_is_mod] at h
  exact h
theorem tdiv_two (n : Nat) : Int.tdiv (n : Int) 2 = ((n / 2 : Nat) : Int) := by
  rw [Int.tdiv_eq_ediv_of_nonneg (by omega)]
  omega
theorem shr_nat (n j : Nat) (hj : j ≤ 64) : shr .i64 (n : Int) (j : Int) = ((n / 2 ^ j : Nat) : Int) := by
  unfold shr
  have e : (j : Int).toNat = j := rfl
  rw [e, Nat.min_eq_left (by exact hj)]
  simp
theorem shl_one (j : Nat) (hj : j ≤ 62) : shl .i64 1 (j : Int) = ((2 ^ j : Nat) : Int) := by
  unfold shl
  have e : (j : Int).toNat = j := rfl
  have h : 2 ^ j ≤ 2 ^ 62 := Nat.pow_le_pow_right (by decide) hj
  have h' : (2 : Nat) ^ 62 = 4611686018427387904 := rfl
  rw [e, Nat.min_eq_left (show j ≤ IntKind.i64.bits from by show j ≤ 64; omega), Int.one_mul]
  have e2 : ((2 : Int) ^ j) = ((2 ^ j : Nat) : Int) := by simp
  rw [e2]
  generalize 2 ^ j = x at h ⊢
  exact wrap_i64 (by omega) (by omega)
theorem div_lt_big (n j : Nat) (hn : n < 4611686018427387904) : n / 2 ^ j < 4611686018427387904 := Nat.lt_of_le_of_lt (Nat.div_le_self _ _) hn
theorem stOf_take (r n : Nat) : stOf (r + 1) n = stOf r n ++ [sign n r] := by
  unfold stOf
  rw [List.range_succ]
  simp
theorem append_one (l : List UInt8) (c : UInt8) : ((⟨l.toArray⟩ : ByteArray) ++ (⟨#[c]⟩ : ByteArray)) = ⟨(l ++ [c]).toArray⟩ := by
  apply ByteArray.ext
  simp
theorem succ64 {n : Nat} (h : n < 4611686018427387904) : wrap64 ((n : Int) + 1) = ((n + 1 : Nat) : Int) := by rw [w64 (by omega) (by omega)]; omega
theorem pred64 {n : Nat} (h : n < 4611686018427387904) (h1 : 1 ≤ n) : wrap64 ((n : Int) - 1) = ((n - 1 : Nat) : Int) := by rw [w64 (by omega) (by omega)]; omega
theorem extract_list (s : ByteArray) (a b : Nat) : (s.extract a b).data.toList = (s.data.toList.take b).drop a := by
  rw [ByteArray.data_extract, Array.toList_extract, List.extract_eq_take_drop, List.drop_take]
theorem bt_opt {s : ByteArray} {i : Nat} {c : UInt8} (h : s.data.toList[i]? = some c) : bt s (i : Int) = (c.toNat : Int) := by
  obtain ⟨hi, e⟩ := List.getElem?_eq_some_iff.1 h
  rw [bt_get hi, e]
def ints (l : List Nat) : List Int := l.map fun k : Nat => (k : Int)
theorem ev_num {α β : Type} {f : Nat → Option β} {t : β} {g h : Nat → Option α} {r : α} (hn : Ev f t) (hh : Ev h r) (he : ∀ k, f k = some t → g (k + 1) = h k) : Ev g r := by
  obtain ⟨K1, h1⟩ := hn
  obtain ⟨K2, h2⟩ := hh
  refine ⟨max K1 K2 + 1, fun n hn => ?_⟩
  obtain ⟨k, rfl⟩ : ∃ k, n = k + 1 := ⟨n - 1, by omega⟩
  rw [he k (h1 k (by omega))]
  exact h2 k (by omega)
theorem rd_get {l : List Int} {i : Nat} (h : i < l.length) : rd l (i : Int) = l[i] := by
  show l.getD i 0 = l[i]
  simp [List.getD, h]
theorem rdS_get {l : List ByteArray} {i : Nat} (h : i < l.length) : rdOf ByteArray.empty l (i : Int) = l[i] := by
  show l.getD i _ = l[i]
  simp [List.getD, h]
theorem ev_all (g : Nat → Int → Option Bool) (p : Nat → Bool) (n : Nat)
    (h1 : ∀ i, i < n → p i = true → ∀ r, Ev (fun k => g k ((i + 1 : Nat) : Int)) r → Ev (fun k => g k (i : Int)) r)
    (h0 : ∀ i, i < n → p i = false → Ev (fun k => g k (i : Int)) false) (he : Ev (fun k => g k (n : Int)) true) :
    ∀ d i, i + d = n → Ev (fun k => g k (i : Int)) ((List.range' i d).all p) := by
  intro d
  induction d with
  | zero =>
    intro i hi
    have : i = n := by omega
    subst this
    exact he
  | succ d ih =>
    intro i hi
    rw [List.range'_succ, List.all_cons]
    cases hp : p i with
    | true => exact h1 i (by omega) hp _ (by rw [Bool.true_and]; exact ih (i + 1) (by omega))
    | false => rw [Bool.false_and]; exact h0 i (by omega) hp
theorem all_range {α : Type} (l : List α) (q : α → Bool) (p : Nat → Bool) (h : ∀ i (hi : i < l.length), p i = q l[i]) : (List.range' 0 l.length).all p = l.all q := by
  rw [Bool.eq_iff_iff, List.all_eq_true, List.all_eq_true]
  constructor
  · intro g x hx
    obtain ⟨i, hi, rfl⟩ := List.getElem_of_mem hx
    rw [← h i hi]
    exact g i (by simp [List.mem_range'_1, hi])
  · intro g i hi
    simp [List.mem_range'_1] at hi
    rw [h i hi]
    exact g _ (List.getElem_mem hi)

/-! ### Searching by a function value -/
def tx (l : List UInt8) : ByteArray := ⟨l.toArray⟩
theorem tx_data (l : List UInt8) : (tx l).data.toList = l := by simp [tx]
theorem tx_size (l : List UInt8) : (tx l).size = l.length := by rw [size_eq, tx_data]
theorem ba_ext {a b : ByteArray} (h : a.data.toList = b.data.toList) : a = b := by
  apply ByteArray.ext
  exact Array.toList_inj.1 h
theorem tx_self (s : ByteArray) : tx s.data.toList = s := ba_ext (tx_data _)
theorem flip_parts (l : List UInt8) (k : Nat) (hk : k < l.length) : flipAt l k = l.take k ++ flipC l[k] :: l.drop (k + 1) := by
  unfold flipAt
  exact List.modify_eq_take_cons_drop hk
theorem join3 (l : List UInt8) (k : Nat) (hk : k < l.length) (c : UInt8) (hc : flipC l[k] = c) : (((tx l).extract 0 k ++ (⟨#[c]⟩ : ByteArray)) ++ (tx l).extract (k + 1) l.length) = tx (flipAt l k) := by
  apply ba_ext
  rw [tx_data, flip_parts l k hk, hc, ByteArray.data_append, ByteArray.data_append, Array.toList_append, Array.toList_append, extract_list, extract_list, tx_data, List.drop_zero, List.take_of_length_le (Nat.le_refl _)]
  simp
theorem riMove (l : List UInt8) (h20 : l.length ≤ 20) (ho : l.all okc = true) (k : Nat) (hk : k < l.length) : spec_riMove.f (tx l) (k : Int) = some (tx (flipAt l k)) := by
  have e := tx_size l
  have hb : bt (tx l) (k : Int) = (l[k].toNat : Int) := bt_opt (by rw [tx_data]; exact List.getElem?_eq_getElem hk)
  have hc : okc l[k] = true := List.all_eq_true.1 ho _ (List.getElem_mem _)
  have e1 : ((k : Nat) : Int).toNat = k := rfl
  have e2 : ((k + 1 : Nat) : Int).toNat = k + 1 := rfl
  have hx1 : ((tx l).extract 0 k).size ≤ 20 := by rw [size_eq, extract_list]; simp; omega
  have hx2 : ((tx l).extract (k + 1) l.length).size ≤ 20 := by rw [size_eq, extract_list, tx_data]; simp; omega
  unfold spec_riMove.f
  rw [if_pos (by omega), e, if_pos (by omega), hb]
  simp only [is49]
  have es : wrap64 ((k : Int) + 1) = ((k + 1 : Nat) : Int) := succ64 (by omega)
  rw [es, e1, e2]
  have hs1 : ∀ c : UInt8, ((tx l).extract 0 k ++ (⟨#[c]⟩ : ByteArray)).size = ((tx l).extract 0 k).size + 1 := fun c => by rw [ByteArray.size_append]; rfl
  rcases okc_cases hc with h | h
  · rw [if_neg (by rw [h]; decide), if_pos (by omega), if_pos (by omega), if_pos (by omega), if_pos (by omega), if_pos (by rw [hs1]; omega), join3 l k hk 49 (by rw [h]; decide)]
  · rw [if_pos h, if_pos (by omega), if_pos (by omega), if_pos (by omega), if_pos (by omega), if_pos (by rw [hs1]; omega), join3 l k hk 48 (by rw [h]; decide)]
theorem turned (l : List UInt8) (h20 : l.length ≤ 20) (ho : l.all okc = true) (k : Nat) (hk : k < l.length) : impl_turned.f (tx l) (k : Int) = some (tx (flipAt l k)) := by
  have e := tx_size l
  have hc : okc l[k] = true := List.all_eq_true.1 ho _ (List.getElem_mem _)
  have e1 : ((k : Nat) : Int).toNat = k := rfl
  have eg : l.getD k 0 = l[k] := by rw [List.getD_eq_getElem?_getD, List.getElem?_eq_getElem hk]; rfl
  unfold impl_turned.f
  rw [e1, tx_data, eg, e]
  have h97 : l[k].toNat ≤ 97 := by rcases okc_cases hc with h | h <;> rw [h] <;> decide
  rw [if_pos ⟨by omega, by omega, by omega, h97⟩]
  congr 1
  apply ba_ext
  rw [tx_data]
  apply List.ext_getElem?
  intro j
  show (l.set k (UInt8.ofNat (97 - l[k].toNat)))[j]? = _
  rw [List.getElem?_set, flipAt_get]
  by_cases h : k = j
  · subst h
    rw [if_pos rfl, if_pos rfl, if_pos hk, List.getElem?_eq_getElem hk]
    simp only [Option.map_some, Option.some.injEq]
    rcases okc_cases hc with h | h <;> rw [h] <;> decide
  · rw [if_neg h, if_neg h]
end Go.Proofs.YtdgpkdgpmidaoaaDoor.Lem
