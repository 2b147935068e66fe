/-
  What the printed functions on rings come to, in the words of YtppbohghongfmaaDoorRing: the reference's and the program's alike.
-/
import Derived.Test.YtppbohghongfmaaDoorPNx1
import Derived.Test.YtppbohghongfmaaDoorPNx2
import Derived.Test.YtppbohghongfmaaDoorPNx3
import Derived.Test.YtppbohghongfmaaDoorPNx4
import Derived.Test.YtppbohghongfmaaDoorPNx5
import Derived.Test.YtppbohghongfmaaDoorPNx6
import Derived.Test.YtppbohghongfmaaDoorPNx7
import Derived.Test.YtppbohghongfmaaDoorPNx8
import Derived.Test.YtppbohghongfmaaDoorPNx9
import Derived.Test.YtppbohghongfmaaDoorPNx10
import Derived.Test.YtppbohghongfmaaDoorRing
import Derived.Lib.SlTrimSet
import Derived.Lib.LazyBuf
namespace Go.Proofs.YtppbohghongfmaaDoor.Lem
open Go.RowKit Go.Proofs.YtppbohghongfmaaDoor.PN Go.Proofs.YtppbohghongfmaaDoorW.PrintWords Go.Proofs.YtppbohghongfmaaDoorW.PrintLast Go.Proofs.YtppbohghongfmaaDoorW.PrintMore Go.Proofs.YtppbohghongfmaaDoor.Ring
set_option linter.unusedVariables false
set_option linter.unusedSimpArgs false

/-- Not by 'rfl': the kernel then needn't compute with the long numerals. -/
theorem obind {α β : Type} (a : α) (f : α → Option β) : (some a).bind f = f a := by rw [Option.bind_some]
theorem w64 {n : Int} (h1 : -9223372036854775808 ≤ n) (h2 : n ≤ 9223372036854775807) : wrap64 n = n := by unfold wrap64; omega
theorem size_eq (s : ByteArray) : s.size = s.data.toList.length := by rw [Array.length_toList]; rfl
theorem bt_drop {s : ByteArray} {i : Nat} {c : UInt8} {m : List UInt8} (h : s.data.toList.drop i = c :: m) : i < s.size ∧ bt s (i : Int) = (c.toNat : Int) ∧ s.data.toList.drop (i + 1) = m := by
  have hi : i < s.data.toList.length := by
    apply Nat.lt_of_not_le
    intro hle
    rw [List.drop_eq_nil_of_le hle] at h
    cases h
  rw [List.drop_eq_getElem_cons hi] at h
  injection h with h1 h2
  have hs : i < s.size := by rw [size_eq]; exact hi
  refine ⟨hs, ?_, h2⟩
  unfold bt
  rw [dif_pos (show (i : Int).toNat < s.size by simpa using hs)]
  rw [← h1]
  rfl
theorem bt_get {s : ByteArray} {i : Nat} (hi : i < s.data.toList.length) : bt s (i : Int) = (s.data.toList[i].toNat : Int) :=
  (bt_drop (List.drop_eq_getElem_cons hi)).2.1
theorem toNat_eq {c : UInt8} {n : Nat} (hn : n < 256) : ((c.toNat : Int) = (n : Int)) ↔ c = UInt8.ofNat n := by
  constructor
  · intro h
    have h' : c.toNat = n := by omega
    rw [← h']
    simp
  · intro h
    subst h
    simp
    omega
theorem is48 (c : UInt8) : ((c.toNat : Int) = 48) ↔ c = 48 := toNat_eq (n := 48) (by decide)
theorem is49 (c : UInt8) : ((c.toNat : Int) = 49) ↔ c = 49 := toNat_eq (n := 49) (by decide)

theorem in_eq (a b c : Int) : impl_in.f a b c = some (decide (b ≤ a ∧ a ≤ c)) := by
  unfold impl_in.f
  by_cases h1 : a ≥ b
  · rw [if_pos h1]
    have h1' : b ≤ a := h1
    by_cases h2 : a ≤ c
    · simp [h1', h2]
    · simp [h2]
  · rw [if_neg h1]
    have h1' : ¬ b ≤ a := h1
    simp [h1']
theorem l1In_eq (a b c : Int) : spec_l1In.f a b c = some (decide (b ≤ a ∧ a ≤ c)) := in_eq a b c

theorem riGood_l0 (s : ByteArray) (hs : s.size ≤ 20) : ∀ (m : List UInt8) (i k : Nat), s.data.toList.drop i = m → m.length < k → spec_riGood.l0 k s (i : Int) = some (m.all okc) := by
  intro m
  induction m with
  | nil =>
    intro i k h hk
    obtain ⟨k, rfl⟩ : ∃ j, k = j + 1 := ⟨k - 1, by omega⟩
    have := List.drop_eq_nil_iff.1 h
    have e := size_eq s
    simp only [spec_riGood.l0]
    rw [if_neg (by omega)]
    rfl
  | cons c m ih =>
    intro i k h hk
    obtain ⟨k, rfl⟩ : ∃ j, k = j + 1 := ⟨k - 1, by omega⟩
    obtain ⟨h1, h2, h3⟩ := bt_drop h
    simp only [spec_riGood.l0]
    simp only [List.length_cons] at hk
    rw [if_pos (by omega), if_pos (by omega), h2]
    have e : wrap64 ((i : Int) + 1) = ((i + 1 : Nat) : Int) := by rw [w64 (by omega) (by omega)]; omega
    rw [e, ih (i + 1) k h3 (by omega)]
    simp only [is48, is49, List.all_cons, okc]
    by_cases h4 : c = 48
    · simp [h4]
    · by_cases h5 : c = 49
      · simp [h5]
      · simp [h4, h5]
theorem riGood_mono (s : ByteArray) : ∀ k, LeO (spec_riGood.f k s) (spec_riGood.f (k + 1) s) := fun k => spec_riGood.mono s k
theorem riGood (s : ByteArray) : Ev (fun k => spec_riGood.f k s) (isSt s.data.toList) := by
  refine Ev.of (k := 21) (riGood_mono s) ?_
  unfold spec_riGood.f isSt
  rw [l1In_eq, ← size_eq]
  simp only [obind]
  by_cases h1 : 1 ≤ s.size
  · by_cases h2 : s.size ≤ 20
    · rw [if_pos (by simp; omega)]
      have := riGood_l0 s h2 s.data.toList 0 21 rfl (by have := size_eq s; omega)
      rw [show ((0 : Nat) : Int) = 0 from rfl] at this
      rw [this]
      simp [h1, h2]
    · rw [if_neg (by simp; omega)]
      simp [h2]
  · rw [if_neg (by simp; omega)]
    simp [h1]

theorem dropWhile_nil {p : UInt8 → Bool} : ∀ {l : List UInt8}, l.dropWhile p = [] ↔ l.all p = true
  | [] => by simp
  | c :: l => by
    rw [List.dropWhile_cons]
    by_cases h : p c = true
    · rw [if_pos h, dropWhile_nil]; simp [h]
    · rw [if_neg h]; simp [h]
theorem dropWhile_head {p : UInt8 → Bool} {l m : List UInt8} {c : UInt8} (h : l.dropWhile p = c :: m) : p c = false := by
  induction l with
  | nil => simp at h
  | cons d l ih =>
    rw [List.dropWhile_cons] at h
    by_cases hd : p d = true
    · rw [if_pos hd] at h; exact ih h
    · rw [if_neg hd] at h
      injection h with h1 _
      subst h1
      exact Bool.eq_false_iff.2 hd
theorem trimS_nil (l cs : List UInt8) : Lib.trimS l cs = [] ↔ l.all (cs.contains ·) = true := by
  unfold Lib.trimS Lib.trimLeftS Lib.trimRightS
  rw [dropWhile_nil]
  constructor
  · intro h
    cases e : l.reverse.dropWhile (cs.contains ·) with
    | nil => rw [dropWhile_nil] at e; simpa using e
    | cons c m =>
      have := dropWhile_head e
      rw [e] at h
      simp only [List.reverse_cons, List.all_append, List.all_cons, List.all_nil, Bool.and_true, Bool.and_eq_true] at h
      rw [h.2] at this
      cases this
  · intro h
    have : l.reverse.dropWhile (cs.contains ·) = [] := by rw [dropWhile_nil]; simpa using h
    rw [this]
    rfl
theorem trim_eq (s : ByteArray) (cs : List UInt8) (hs : s.size ≤ 9223372036854775807) (hc : cs.length < 4294967281) (ha : cs.all (fun b => decide (b.toNat < 128)) = true) :
    strings_Trim.f s ⟨cs.toArray⟩ = some ⟨(Lib.trimS s.data.toList cs).toArray⟩ := by
  unfold strings_Trim.f
  rw [if_pos ⟨hs, by rw [size_eq]; simpa using hc, by simpa using ha⟩]
theorem toList_nil (l : List UInt8) : ((⟨l.toArray⟩ : ByteArray).toList == ([] : List UInt8)) = decide (l = []) := by
  rw [Lib.toList_data]
  cases l <;> simp
theorem isState (s : ByteArray) : impl_IsState.f s = some (isSt s.data.toList) := by
  unfold impl_IsState.f isSt
  rw [in_eq, ← size_eq]
  simp only [obind]
  by_cases h1 : 1 ≤ s.size
  · by_cases h2 : s.size ≤ 20
    · rw [if_pos (by simp; omega)]
      rw [show (⟨#[48, 49]⟩ : ByteArray) = ⟨[48, 49].toArray⟩ from rfl, trim_eq s [48, 49] (by omega) (by decide) (by decide)]
      simp only [obind]
      rw [toList_nil]
      have e : (s.data.toList.all ([48, 49].contains ·)) = s.data.toList.all okc := by
        congr 1
        funext c
        simp only [okc, List.contains_cons, List.contains_nil, Bool.or_false]
      rw [show decide (Lib.trimS s.data.toList [48, 49] = []) = (s.data.toList.all ([48, 49].contains ·)) from by
        rw [Bool.eq_iff_iff]; simpa using trimS_nil s.data.toList [48, 49], e]
      simp [h1, h2]
    · rw [if_neg (by simp; omega)]
      simp [h2]
  · rw [if_neg (by simp; omega)]
    simp [h1]

/-- Two states of as many rings. -/
def two (a b : ByteArray) : Bool := isSt a.data.toList && isSt b.data.toList && decide (a.data.toList.length = b.data.toList.length)
theorem int_beq (a b : Nat) : ((a : Int) == (b : Int)) = decide (a = b) := by
  rw [Bool.eq_iff_iff]
  simp
  omega
theorem isSt_len {l : List UInt8} (h : isSt l = true) : 1 ≤ l.length ∧ l.length ≤ 20 ∧ l.all okc = true := by
  simpa [isSt, and_assoc] using h
theorem num_le {l : List UInt8} (h : l.length ≤ 20) : num l < 1048576 := by
  have := num_lt l
  have : 2 ^ l.length ≤ 2 ^ 20 := Nat.pow_le_pow_right (by decide) h
  have e : 2 ^ 20 = 1048576 := rfl
  omega
theorem bitsN_le {l : List UInt8} (h : l.length ≤ 20) (ho : l.all okc = true) : bitsN l < 1048576 := by
  have := bitsN_lt l ho
  have : 2 ^ l.length ≤ 2 ^ 20 := Nat.pow_le_pow_right (by decide) h
  have e : 2 ^ 20 = 1048576 := rfl
  omega
theorem riNumber_l0 (s : ByteArray) (hs : s.data.toList.length ≤ 20) : ∀ (j k : Nat), j ≤ s.data.toList.length → j < k →
    spec_riNumber.l0 k s (num (s.data.toList.drop j) : Int) (dig (s.data.toList.drop j) : Int) ((j : Int) - 1) = some (num s.data.toList : Int) := by
  intro j
  induction j with
  | zero =>
    intro k _ hk
    obtain ⟨k, rfl⟩ : ∃ j, k = j + 1 := ⟨k - 1, by omega⟩
    simp only [spec_riNumber.l0]
    rw [if_neg (by omega)]
    rfl
  | succ j ih =>
    intro k hj hk
    obtain ⟨k, rfl⟩ : ∃ j, k = j + 1 := ⟨k - 1, by omega⟩
    have e := size_eq s
    have hlt : j < s.data.toList.length := by omega
    have hb := bt_get hlt
    have hd := List.drop_eq_getElem_cons hlt
    have h1 : num (s.data.toList.drop (j + 1)) < 1048576 := num_le (by rw [List.length_drop]; omega)
    have h2 := dig_lt (s.data.toList.drop (j + 1))
    have h3 := ih k (by omega) (by omega)
    have ei : ((j + 1 : Nat) : Int) - 1 = (j : Int) := by omega
    have ew : wrap64 ((j : Int) - 1) = (j : Int) - 1 := w64 (by omega) (by omega)
    simp only [spec_riNumber.l0]
    rw [ei, if_pos (by omega), if_pos (by omega), if_pos (by omega), hb, ew]
    simp only [is49]
    rw [hd, num, dig] at h3
    by_cases hc : s.data.toList[j] = 49
    · rw [if_pos hc]
      rw [if_pos hc] at h3
      rw [← h3]
      congr 1
      · rw [w64 (n := 2 * _) (by omega) (by omega), w64 (n := 1 - _) (by omega) (by omega), w64 (by omega) (by omega)]; omega
      · rw [w64 (by omega) (by omega)]; omega
    · rw [if_neg hc]
      rw [if_neg hc] at h3
      rw [← h3]
      congr 1
      rw [w64 (n := 2 * _) (by omega) (by omega), w64 (by omega) (by omega)]; omega
theorem riNumber (s : ByteArray) (hs : s.data.toList.length ≤ 20) : Ev (fun k => spec_riNumber.f k s) (num s.data.toList : Int) := by
  refine Ev.of (k := 21) (fun k => spec_riNumber.mono s k) ?_
  have h := riNumber_l0 s hs s.data.toList.length 21 (Nat.le_refl _) (by omega)
  rw [List.drop_length] at h
  unfold spec_riNumber.f
  have e := size_eq s
  rw [w64 (by omega) (by omega), e]
  exact h
theorem bits_l0 (s : ByteArray) (hs : s.data.toList.length ≤ 20) (ho : s.data.toList.all okc = true) : ∀ (j k : Nat), j ≤ s.data.toList.length → j < k →
    impl_bits.l0 k s (bitsN (s.data.toList.drop j) : Int) ((j : Int) - 1) = some (bitsN s.data.toList : Int) := by
  intro j
  induction j with
  | zero =>
    intro k _ hk
    obtain ⟨k, rfl⟩ : ∃ j, k = j + 1 := ⟨k - 1, by omega⟩
    simp only [impl_bits.l0]
    rw [if_neg (by omega)]
    rfl
  | succ j ih =>
    intro k hj hk
    obtain ⟨k, rfl⟩ : ∃ j, k = j + 1 := ⟨k - 1, by omega⟩
    have e := size_eq s
    have hlt : j < s.data.toList.length := by omega
    have hb := bt_get hlt
    have hd := List.drop_eq_getElem_cons hlt
    have ho2 : (s.data.toList.drop (j + 1)).all okc = true := by
      rw [List.all_eq_true] at ho ⊢
      exact fun x hx => ho x (List.mem_of_mem_drop hx)
    have h1 : bitsN (s.data.toList.drop (j + 1)) < 1048576 := bitsN_le (by rw [List.length_drop]; omega) ho2
    have h3 := ih k (by omega) (by omega)
    have ei : ((j + 1 : Nat) : Int) - 1 = (j : Int) := by omega
    have ew : wrap64 ((j : Int) - 1) = (j : Int) - 1 := w64 (by omega) (by omega)
    have hc : okc s.data.toList[j] = true := List.all_eq_true.1 ho _ (List.getElem_mem _)
    simp only [impl_bits.l0]
    rw [ei, if_pos (by omega), if_pos (by omega), if_pos (by omega), hb, ew]
    rw [hd, bitsN] at h3
    rw [← h3]
    congr 1
    have h4 : s.data.toList[j].toNat = 48 ∨ s.data.toList[j].toNat = 49 := by rcases okc_cases hc with h | h <;> rw [h] <;> decide
    rw [w64 (n := 2 * _) (by omega) (by omega), w64 (by omega) (by omega)]
    omega
theorem bits (s : ByteArray) (hs : s.data.toList.length ≤ 20) (ho : s.data.toList.all okc = true) : Ev (fun k => impl_bits.f k s) (bitsN s.data.toList : Int) := by
  refine Ev.of (k := 21) (fun k => impl_bits.mono s k) ?_
  have h := bits_l0 s hs ho s.data.toList.length 21 (Nat.le_refl _) (by omega)
  rw [List.drop_length] at h
  unfold impl_bits.f
  have e := size_eq s
  rw [w64 (by omega) (by omega), e]
  exact h
theorem wrap_i64 {n : Int} (h1 : -9223372036854775808 ≤ n) (h2 : n ≤ 9223372036854775807) : IntKind.i64.wrap n = n := by
  rw [IntKind.wrap_i64]
  omega
theorem xor_nat (a b : Nat) (ha : a < 4611686018427387904) (hb : b < 4611686018427387904) : Go.bits .xor .i64 (a : Int) (b : Int) = ((a ^^^ b : Nat) : Int) := by
  have ha' : a % 2 ^ 64 = a := Nat.mod_eq_of_lt (by omega)
  have hb' : b % 2 ^ 64 = b := Nat.mod_eq_of_lt (by omega)
  have hx : a ^^^ b < 2 ^ 62 := Nat.xor_lt_two_pow (by omega) (by omega)
  have hk : IntKind.i64.bits = 64 := rfl
  simp only [Go.bits, hk, BitVec.ofInt_natCast, BitVec.toNat_xor, BitVec.toNat_ofNat, ha', hb']
  exact wrap_i64 (by omega) (by omega)
theorem and_one (a : Nat) (ha : a < 4611686018427387904) : Go.bits .and .i64 (a : Int) 1 = ((a % 2 : Nat) : Int) := by
  have h := (bits_nat .i64 62 (by decide) (fun n h0 h1 => wrap_i64 (by omega) (by have : (2 : Int) ^ 62 = 4611686018427387904 := rfl; omega)) a 1 (by omega) (by omega)).1
  rw [Nat.and_one_is_mod] at h
  exact h
theorem tdiv_two (n : Nat) : Int.tdiv (n : Int) 2 = ((n / 2 : Nat) : Int) := by
  rw [Int.tdiv_eq_ediv_of_nonneg (by omega)]
  omega
theorem unreflected_l0 : ∀ (m : List UInt8) (n k : Nat), m.all okc = true → m.length ≤ 20 → n < 1048576 → m.length < k → impl_unreflected.l0 k (bitsN m : Int) (n : Int) = some ((n ^^^ num m : Nat) : Int) := by
  intro m
  induction m with
  | nil =>
    intro n k _ _ _ hk
    obtain ⟨k, rfl⟩ : ∃ j, k = j + 1 := ⟨k - 1, by omega⟩
    simp [impl_unreflected.l0, bitsN, num]
  | cons c m ih =>
    intro n k ho hl hn hk
    obtain ⟨k, rfl⟩ : ∃ j, k = j + 1 := ⟨k - 1, by omega⟩
    have ho' := ho
    simp only [List.all_cons, Bool.and_eq_true] at ho'
    simp only [List.length_cons] at hl hk
    simp only [impl_unreflected.l0]
    have hb := bitsN_le (l := c :: m) (by simp; omega) ho
    by_cases h0 : bitsN (c :: m) = 0
    · rw [if_neg (by omega), bitsN_zero _ ho h0]
      simp
    · rw [if_pos (by omega), tdiv_two, w64 (by omega) (by omega), bitsN_half c m ho'.1, xor_nat _ _ (by omega) (by omega)]
      have hx : n ^^^ bitsN (c :: m) < 2 ^ 20 := Nat.xor_lt_two_pow (by omega) (by omega)
      rw [ih (n ^^^ bitsN (c :: m)) k ho'.2 (by omega) (by omega) (by omega), num_cons c m ho, Nat.xor_assoc]
theorem number (s : ByteArray) (hs : isSt s.data.toList = true) : Ev (fun k => impl_number.f k s) (num s.data.toList : Int) := by
  obtain ⟨_, h2, h3⟩ := isSt_len hs
  unfold impl_number.f
  refine Ev.bind (bits s h2 h3) (Ev.bind (a := (num s.data.toList : Int)) ?_ (Ev.now _))
  refine Ev.of (k := 21) (fun k => impl_unreflected.mono _ k) ?_
  have := unreflected_l0 s.data.toList 0 21 h3 h2 (by decide) (by omega)
  rw [Nat.zero_xor] at this
  exact this

theorem shr_nat (n j : Nat) (hj : j ≤ 64) : shr .i64 (n : Int) (j : Int) = ((n / 2 ^ j : Nat) : Int) := by
  unfold shr
  have e : (j : Int).toNat = j := rfl
  rw [e, Nat.min_eq_left (by exact hj)]
  simp
theorem shl_one (j : Nat) (hj : j ≤ 62) : shl .i64 1 (j : Int) = ((2 ^ j : Nat) : Int) := by
  unfold shl
  have e : (j : Int).toNat = j := rfl
  have h : 2 ^ j ≤ 2 ^ 62 := Nat.pow_le_pow_right (by decide) hj
  have h' : (2 : Nat) ^ 62 = 4611686018427387904 := rfl
  rw [e, Nat.min_eq_left (show j ≤ IntKind.i64.bits from by show j ≤ 64; omega), Int.one_mul]
  have e2 : ((2 : Int) ^ j) = ((2 ^ j : Nat) : Int) := by simp
  rw [e2]
  generalize 2 ^ j = x at h ⊢
  exact wrap_i64 (by omega) (by omega)
theorem div_lt_big (n j : Nat) (hn : n < 4611686018427387904) : n / 2 ^ j < 4611686018427387904 := Nat.lt_of_le_of_lt (Nat.div_le_self _ _) hn
theorem stOf_take (r n : Nat) : stOf (r + 1) n = stOf r n ++ [sign n r] := by
  unfold stOf
  rw [List.range_succ]
  simp
theorem append_one (l : List UInt8) (c : UInt8) : ((⟨l.toArray⟩ : ByteArray) ++ (⟨#[c]⟩ : ByteArray)) = ⟨(l ++ [c]).toArray⟩ := by
  apply ByteArray.ext
  simp
theorem sign_xor (n j : Nat) : ((n ^^^ n / 2) / 2 ^ j) % 2 = if n / 2 ^ j % 2 = n / 2 ^ (j + 1) % 2 then 0 else 1 := by
  have h : (n ^^^ n / 2).testBit j = (n.testBit j ^^ (n / 2).testBit j) := Nat.testBit_xor _ _ _
  rw [← Nat.testBit_succ] at h
  simp only [Nat.testBit_eq_decide_div_mod_eq] at h
  have a1 : n / 2 ^ j % 2 = 0 ∨ n / 2 ^ j % 2 = 1 := by omega
  have a2 : n / 2 ^ (j + 1) % 2 = 0 ∨ n / 2 ^ (j + 1) % 2 = 1 := by omega
  have a3 : (n ^^^ n / 2) / 2 ^ j % 2 = 0 ∨ (n ^^^ n / 2) / 2 ^ j % 2 = 1 := by omega
  rcases a1 with a1 | a1 <;> rcases a2 with a2 | a2 <;> rcases a3 with a3 | a3 <;> simp [a1, a2, a3] at h ⊢
theorem riOn_l0 (s : ByteArray) (hs : s.size ≤ 1000000) : ∀ (m : List UInt8) (i k n : Nat), s.data.toList.drop i = m → m.length < k → n ≤ i → spec_riOn.l0 k s (n : Int) (i : Int) = some ((n + ones m : Nat) : Int) := by
  intro m
  induction m with
  | nil =>
    intro i k n h hk hn
    obtain ⟨k, rfl⟩ : ∃ j, k = j + 1 := ⟨k - 1, by omega⟩
    have := List.drop_eq_nil_iff.1 h
    have e := size_eq s
    simp only [spec_riOn.l0]
    rw [if_neg (by omega)]
    rfl
  | cons c m ih =>
    intro i k n h hk hn
    obtain ⟨k, rfl⟩ : ∃ j, k = j + 1 := ⟨k - 1, by omega⟩
    obtain ⟨h1, h2, h3⟩ := bt_drop h
    simp only [List.length_cons] at hk
    have ew : wrap64 ((i : Int) + 1) = ((i + 1 : Nat) : Int) := by rw [w64 (by omega) (by omega)]; omega
    have ewn : wrap64 ((n : Int) + 1) = ((n + 1 : Nat) : Int) := by rw [w64 (by omega) (by omega)]; omega
    simp only [spec_riOn.l0]
    rw [if_pos (by omega), if_pos (by omega), h2, ew, ewn]
    simp only [is49]
    by_cases hc : c = 49
    · rw [if_pos hc, ih (i + 1) k (n + 1) h3 (by omega) (by omega)]
      subst hc
      simp only [ones, List.count_cons_self]
      congr 1
      omega
    · rw [if_neg hc, ih (i + 1) k n h3 (by omega) (by omega)]
      simp only [ones]
      rw [List.count_cons_of_ne hc]
theorem riOn (s : ByteArray) (hs : s.size ≤ 1000000) : Ev (fun k => spec_riOn.f k s) (ones s.data.toList : Int) := by
  refine Ev.of (k := s.data.toList.length + 1) (fun k => spec_riOn.mono s k) ?_
  have := riOn_l0 s hs s.data.toList 0 (s.data.toList.length + 1) 0 rfl (by omega) (by omega)
  rw [Nat.zero_add] at this
  exact this
end Go.Proofs.YtppbohghongfmaaDoor.Lem
