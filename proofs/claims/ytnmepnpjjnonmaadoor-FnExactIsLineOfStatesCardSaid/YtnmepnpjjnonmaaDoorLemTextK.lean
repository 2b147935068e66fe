/-
  Lists of keys: what the printed functions come to.
-/
import Derived.Test.YtnmepnpjjnonmaaDoorPKx1
import Derived.Test.YtnmepnpjjnonmaaDoorPKx2
import Derived.Test.YtnmepnpjjnonmaaDoorPKx3
import Derived.Test.YtnmepnpjjnonmaaDoorPKx4
import Derived.Test.YtnmepnpjjnonmaaDoorPKx5
import Derived.Test.YtnmepnpjjnonmaaDoorPKx6
import Derived.Test.YtnmepnpjjnonmaaDoorBfs
import Derived.Test.YtnmepnpjjnonmaaDoorPair
import Derived.Lib.SlTrimSet
import Derived.Lib.LazyBuf
namespace Go.Proofs.YtnmepnpjjnonmaaDoor.Lem
open Go.RowKit Go.Proofs.YtnmepnpjjnonmaaDoor.PK Go.Proofs.YtnmepnpjjnonmaaDoorW.PrintWords Go.Proofs.YtnmepnpjjnonmaaDoorW.PrintLast Go.Proofs.YtnmepnpjjnonmaaDoorW.PrintMore Go.Proofs.YtnmepnpjjnonmaaDoor.Ring
set_option linter.unusedVariables false
set_option linter.unusedSimpArgs false

abbrev Stt := List UInt8
theorem in_eq (a b c : Int) : impl_in.f a b c = some (decide (b ≤ a ∧ a ≤ c)) := by
  unfold impl_in.f
  by_cases h1 : a ≥ b
  · rw [if_pos h1]
    have h1' : b ≤ a := h1
    by_cases h2 : a ≤ c
    · simp [h1', h2]
    · simp [h2]
  · rw [if_neg h1]
    have h1' : ¬ b ≤ a := h1
    simp [h1']
theorem l1In_eq (a b c : Int) : spec_l1In.f a b c = some (decide (b ≤ a ∧ a ≤ c)) := in_eq a b c


theorem obind {α β : Type} (a : α) (f : α → Option β) : (some a).bind f = f a := by rw [Option.bind_some]
theorem w64 {n : Int} (h1 : -9223372036854775808 ≤ n) (h2 : n ≤ 9223372036854775807) : wrap64 n = n := by unfold wrap64; omega
theorem size_eq (s : ByteArray) : s.size = s.data.toList.length := by rw [Array.length_toList]; rfl
theorem bt_drop {s : ByteArray} {i : Nat} {c : UInt8} {m : List UInt8} (h : s.data.toList.drop i = c :: m) : i < s.size ∧ bt s (i : Int) = (c.toNat : Int) ∧ s.data.toList.drop (i + 1) = m := by
  have hi : i < s.data.toList.length := by
    apply Nat.lt_of_not_le
    intro hle
    rw [List.drop_eq_nil_of_le hle] at h
    cases h
  rw [List.drop_eq_getElem_cons hi] at h
  injection h with h1 h2
  have hs : i < s.size := by rw [size_eq]; exact hi
  refine ⟨hs, ?_, h2⟩
  unfold bt
  rw [dif_pos (show (i : Int).toNat < s.size by simpa using hs)]
  rw [← h1]
  rfl
theorem bt_get {s : ByteArray} {i : Nat} (hi : i < s.data.toList.length) : bt s (i : Int) = (s.data.toList[i].toNat : Int) :=
  (bt_drop (List.drop_eq_getElem_cons hi)).2.1
theorem toNat_eq {c : UInt8} {n : Nat} (hn : n < 256) : ((c.toNat : Int) = (n : Int)) ↔ c = UInt8.ofNat n := by
  constructor
  · intro h
    have h' : c.toNat = n := by omega
    rw [← h']
    simp
  · intro h
    subst h
    simp
    omega
theorem is48 (c : UInt8) : ((c.toNat : Int) = 48) ↔ c = 48 := toNat_eq (n := 48) (by decide)
theorem is49 (c : UInt8) : ((c.toNat : Int) = 49) ↔ c = 49 := toNat_eq (n := 49) (by decide)

theorem dropWhile_nil {p : UInt8 → Bool} : ∀ {l : List UInt8}, l.dropWhile p = [] ↔ l.all p = true
  | [] => by simp
  | c :: l => by
    rw [List.dropWhile_cons]
    by_cases h : p c = true
    · rw [if_pos h, dropWhile_nil]; simp [h]
    · rw [if_neg h]; simp [h]
theorem dropWhile_head {p : UInt8 → Bool} {l m : List UInt8} {c : UInt8} (h : l.dropWhile p = c :: m) : p c = false := by
  induction l with
  | nil => simp at h
  | cons d l ih =>
    rw [List.dropWhile_cons] at h
    by_cases hd : p d = true
    · rw [if_pos hd] at h; exact ih h
    · rw [if_neg hd] at h
      injection h with h1 _
      subst h1
      exact Bool.eq_false_iff.2 hd
theorem trimS_nil (l cs : List UInt8) : Lib.trimS l cs = [] ↔ l.all (cs.contains ·) = true := by
  unfold Lib.trimS Lib.trimLeftS Lib.trimRightS
  rw [dropWhile_nil]
  constructor
  · intro h
    cases e : l.reverse.dropWhile (cs.contains ·) with
    | nil => rw [dropWhile_nil] at e; simpa using e
    | cons c m =>
      have := dropWhile_head e
      rw [e] at h
      simp only [List.reverse_cons, List.all_append, List.all_cons, List.all_nil, Bool.and_true, Bool.and_eq_true] at h
      rw [h.2] at this
      cases this
  · intro h
    have : l.reverse.dropWhile (cs.contains ·) = [] := by rw [dropWhile_nil]; simpa using h
    rw [this]
    rfl
theorem trim_eq (s : ByteArray) (cs : List UInt8) (hs : s.size ≤ 9223372036854775807) (hc : cs.length < 4294967281) (ha : cs.all (fun b => decide (b.toNat < 128)) = true) :
    strings_Trim.f s ⟨cs.toArray⟩ = some ⟨(Lib.trimS s.data.toList cs).toArray⟩ := by
  unfold strings_Trim.f
  rw [if_pos ⟨hs, by rw [size_eq]; simpa using hc, by simpa using ha⟩]
theorem toList_nil (l : List UInt8) : ((⟨l.toArray⟩ : ByteArray).toList == ([] : List UInt8)) = decide (l = []) := by
  rw [Lib.toList_data]
  cases l <;> simp
theorem append_one (l : List UInt8) (c : UInt8) : ((⟨l.toArray⟩ : ByteArray) ++ (⟨#[c]⟩ : ByteArray)) = ⟨(l ++ [c]).toArray⟩ := by
  apply ByteArray.ext
  simp
theorem succ64 {n : Nat} (h : n < 4611686018427387904) : wrap64 ((n : Int) + 1) = ((n + 1 : Nat) : Int) := by rw [w64 (by omega) (by omega)]; omega
theorem bt_opt {s : ByteArray} {i : Nat} {c : UInt8} (h : s.data.toList[i]? = some c) : bt s (i : Int) = (c.toNat : Int) := by
  obtain ⟨hi, e⟩ := List.getElem?_eq_some_iff.1 h
  rw [bt_get hi, e]
theorem ev_num {α β : Type} {f : Nat → Option β} {t : β} {g h : Nat → Option α} {r : α} (hn : Ev f t) (hh : Ev h r) (he : ∀ k, f k = some t → g (k + 1) = h k) : Ev g r := by
  obtain ⟨K1, h1⟩ := hn
  obtain ⟨K2, h2⟩ := hh
  refine ⟨max K1 K2 + 1, fun n hn => ?_⟩
  obtain ⟨k, rfl⟩ : ∃ k, n = k + 1 := ⟨n - 1, by omega⟩
  rw [he k (h1 k (by omega))]
  exact h2 k (by omega)
theorem rdS_get {l : List ByteArray} {i : Nat} (h : i < l.length) : rdOf ByteArray.empty l (i : Int) = l[i] := by
  show l.getD i _ = l[i]
  simp [List.getD, h]
theorem ev_all (g : Nat → Int → Option Bool) (p : Nat → Bool) (n : Nat)
    (h1 : ∀ i, i < n → p i = true → ∀ r, Ev (fun k => g k ((i + 1 : Nat) : Int)) r → Ev (fun k => g k (i : Int)) r)
    (h0 : ∀ i, i < n → p i = false → Ev (fun k => g k (i : Int)) false) (he : Ev (fun k => g k (n : Int)) true) :
    ∀ d i, i + d = n → Ev (fun k => g k (i : Int)) ((List.range' i d).all p) := by
  intro d
  induction d with
  | zero =>
    intro i hi
    have : i = n := by omega
    subst this
    exact he
  | succ d ih =>
    intro i hi
    rw [List.range'_succ, List.all_cons]
    cases hp : p i with
    | true => exact h1 i (by omega) hp _ (by rw [Bool.true_and]; exact ih (i + 1) (by omega))
    | false => rw [Bool.false_and]; exact h0 i (by omega) hp
theorem all_range {α : Type} (l : List α) (q : α → Bool) (p : Nat → Bool) (h : ∀ i (hi : i < l.length), p i = q l[i]) : (List.range' 0 l.length).all p = l.all q := by
  rw [Bool.eq_iff_iff, List.all_eq_true, List.all_eq_true]
  constructor
  · intro g x hx
    obtain ⟨i, hi, rfl⟩ := List.getElem_of_mem hx
    rw [← h i hi]
    exact g i (by simp [List.mem_range'_1, hi])
  · intro g i hi
    simp [List.mem_range'_1] at hi
    rw [h i hi]
    exact g _ (List.getElem_mem hi)

/-! ### Searching by a function value -/
def tx (l : List UInt8) : ByteArray := ⟨l.toArray⟩
theorem tx_data (l : List UInt8) : (tx l).data.toList = l := by simp [tx]
theorem tx_size (l : List UInt8) : (tx l).size = l.length := by rw [size_eq, tx_data]
theorem ba_ext {a b : ByteArray} (h : a.data.toList = b.data.toList) : a = b := by
  apply ByteArray.ext
  exact Array.toList_inj.1 h
theorem tx_self (s : ByteArray) : tx s.data.toList = s := ba_ext (tx_data _)

def okk (c : UInt8) : Bool := c == 48 || (c == 49 || c == 63)
def keyOk (n k : Nat) (key : Stt) : Bool := decide (key.length = n) && ((key[k]? == some 63) && key.all okk)
def keysOk (ks : List Stt) : Bool := decide (1 ≤ ks.length ∧ ks.length ≤ 10) && (List.range' 0 ks.length).all (fun k => keyOk ks.length k (ks.getD k []))
theorem bt_tx {l : Stt} {i : Nat} (h : i < l.length) : bt (tx l) (i : Int) = (l[i].toNat : Int) := bt_opt (by rw [tx_data]; exact List.getElem?_eq_getElem h)
theorem is63 (c : UInt8) : ((c.toNat : Int) = 63) ↔ c = 63 := toNat_eq (n := 63) (by decide)
theorem okk_or (c : UInt8) : okk c = true ↔ (c = 63 ∨ c = 48 ∨ c = 49) := by
  unfold okk
  simp
  constructor
  · rintro (h | h | h) <;> simp [h]
  · rintro (h | h | h) <;> simp [h]
theorem rdK {ks : List Stt} {i : Nat} (h : i < ks.length) : rdOf ByteArray.empty (ks.map tx) (i : Int) = tx ks[i] := by
  rw [rdS_get (by rw [List.length_map]; exact h), List.getElem_map]
theorem getD_get {ks : List Stt} {i : Nat} (h : i < ks.length) : ks.getD i [] = ks[i] := by simp [List.getD, h]
theorem keGood_l1 (ks : List Stt) (i : Nat) (key : Stt) (hk : key.length < 4611686018427387904) (hi : i < 4611686018427387904) (R : Bool) (h : Ev (fun k => spec_keGood.l0 k (ks.map tx) (ks.map tx) (ks.length : Int) ((i + 1 : Nat) : Int)) R) : ∀ d j, j + d = key.length →
    Ev (fun k => spec_keGood.l1 k (ks.map tx) (tx key) (j : Int) (ks.map tx) (ks.length : Int) (i : Int)) ((key.drop j).all okk && R) := by
  intro d
  induction d with
  | zero =>
    intro j hj
    rw [List.drop_eq_nil_of_le (by omega), List.all_nil, Bool.true_and]
    refine Ev.step (fun k => ?_) h
    simp only [spec_keGood.l1]
    rw [tx_size, if_neg (fun h => by have := Int.ofNat_lt.1 h; omega), succ64 hi]
  | succ d ih =>
    intro j hj
    have hjl : j < key.length := by omega
    rw [List.drop_eq_getElem_cons hjl, List.all_cons]
    have hb := bt_tx hjl
    have e0 : ∀ k, spec_keGood.l1 (k + 1) (ks.map tx) (tx key) (j : Int) (ks.map tx) (ks.length : Int) (i : Int) = (if key[j] = 63 then spec_keGood.l1 k (ks.map tx) (tx key) ((j + 1 : Nat) : Int) (ks.map tx) (ks.length : Int) (i : Int) else (if key[j] = 48 then spec_keGood.l1 k (ks.map tx) (tx key) ((j + 1 : Nat) : Int) (ks.map tx) (ks.length : Int) (i : Int) else (if key[j] = 49 then spec_keGood.l1 k (ks.map tx) (tx key) ((j + 1 : Nat) : Int) (ks.map tx) (ks.length : Int) (i : Int) else some false))) := by
      intro k
      simp only [spec_keGood.l1]
      rw [if_pos (show (j : Int) < ((tx key).size : Int) by rw [tx_size]; exact Int.ofNat_lt.2 hjl), if_pos (Int.natCast_nonneg _), hb, succ64 (by omega)]
      simp only [is63, is48, is49]
    by_cases c1 : key[j] = 63
    · rw [(okk_or key[j]).2 (Or.inl c1), Bool.true_and]
      exact Ev.step (fun k => by rw [e0, if_pos c1]) (ih (j + 1) (by omega))
    · by_cases c2 : key[j] = 48
      · rw [(okk_or key[j]).2 (Or.inr (Or.inl c2)), Bool.true_and]
        exact Ev.step (fun k => by rw [e0, if_neg c1, if_pos c2]) (ih (j + 1) (by omega))
      · by_cases c3 : key[j] = 49
        · rw [(okk_or key[j]).2 (Or.inr (Or.inr c3)), Bool.true_and]
          exact Ev.step (fun k => by rw [e0, if_neg c1, if_neg c2, if_pos c3]) (ih (j + 1) (by omega))
        · have : okk key[j] = false := Bool.eq_false_iff.2 (fun h => by rcases (okk_or _).1 h with h | h | h <;> contradiction)
          rw [this, Bool.false_and, Bool.false_and]
          exact Ev.step (f := fun _ => some false) (fun k => by rw [e0, if_neg c1, if_neg c2, if_neg c3]) (Ev.now _)
theorem keGood_l0 (ks : List Stt) (hn : ks.length < 4611686018427387904) : ∀ d i, i + d = ks.length → Ev (fun k => spec_keGood.l0 k (ks.map tx) (ks.map tx) (ks.length : Int) (i : Int)) ((List.range' i d).all (fun k => keyOk ks.length k (ks.getD k []))) := by
  intro d
  induction d with
  | zero =>
    intro i hi
    refine Ev.step (f := fun _ => some true) (fun k => ?_) (Ev.now _)
    simp only [spec_keGood.l0]
    rw [if_neg (fun h => by have := Int.ofNat_lt.1 h; omega)]
  | succ d ih =>
    intro i hi
    have hil : i < ks.length := by omega
    rw [List.range'_succ, List.all_cons, getD_get hil]
    obtain ⟨key, hkey⟩ : ∃ key, ks[i] = key := ⟨_, rfl⟩
    rw [hkey]
    have pre : ∀ (b : Bool) r, Ev (fun k => spec_keGood.j1 k (ks.map tx) (tx key) (ks.map tx) (ks.length : Int) (i : Int) b) r → (∀ k, (if ((tx key).size : Int) = ((ks.map tx).length : Int) then (if (i : Int) < ((tx key).size : Int) then (spec_keGood.j1 k (ks.map tx) (tx key) (ks.map tx) (ks.length : Int) (i : Int) ((bt (tx key) (i : Int)) != 63)) else (none)) else (spec_keGood.j1 k (ks.map tx) (tx key) (ks.map tx) (ks.length : Int) (i : Int) true)) = spec_keGood.j1 k (ks.map tx) (tx key) (ks.map tx) (ks.length : Int) (i : Int) b) → Ev (fun k => spec_keGood.l0 k (ks.map tx) (ks.map tx) (ks.length : Int) (i : Int)) r := by
      intro b r h he
      refine Ev.step (fun k => ?_) h
      simp only [spec_keGood.l0]
      rw [if_pos (Int.ofNat_lt.2 hil), if_pos (Int.natCast_nonneg _), if_pos (show (i : Int) < ((ks.map tx).length : Int) by rw [List.length_map]; exact Int.ofNat_lt.2 hil), rdK hil, hkey]
      exact he k
    have jt : Ev (fun k => spec_keGood.j1 k (ks.map tx) (tx key) (ks.map tx) (ks.length : Int) (i : Int) true) false := Ev.step (f := fun _ => some false) (fun k => by simp [spec_keGood.j1]) (Ev.now _)
    unfold keyOk
    by_cases c1 : key.length = ks.length
    · have hik : i < key.length := by omega
      have hb := bt_tx hik
      rw [decide_eq_true c1, Bool.true_and, List.getElem?_eq_getElem hik]
      by_cases c2 : key[i] = 63
      · have hb2 : (bt (tx key) (i : Int) != 63) = false := by rw [hb, bne_eq_false_iff_eq]; exact (is63 _).2 c2
        have h1 := keGood_l1 ks i key (by omega) (by omega) _ (ih (i + 1) (by omega)) key.length 0 (Nat.zero_add _)
        rw [List.drop_zero] at h1
        rw [c2]
        simp only [beq_self_eq_true, Bool.true_and]
        refine pre false _ (Ev.step (fun k => by simp only [spec_keGood.j1]; rw [if_neg Bool.false_ne_true]; rfl) h1) (fun k => ?_)
        rw [tx_size, List.length_map, if_pos (by rw [c1]), if_pos (Int.ofNat_lt.2 hik), hb2]
      · have hb2 : (bt (tx key) (i : Int) != 63) = true := by rw [hb, bne_iff_ne]; exact fun h => c2 ((is63 _).1 h)
        have e : (some key[i] == some (63 : UInt8)) = false := by simpa using c2
        rw [e, Bool.false_and, Bool.false_and]
        refine pre true _ jt (fun k => ?_)
        rw [tx_size, List.length_map, if_pos (by rw [c1]), if_pos (Int.ofNat_lt.2 hik), hb2]
    · rw [decide_eq_false c1, Bool.false_and, Bool.false_and]
      refine pre true _ jt (fun k => ?_)
      rw [tx_size, List.length_map, if_neg (show ¬ ((key.length : Int) = (ks.length : Int)) from fun h => c1 (Int.ofNat.inj h))]
theorem keGood (ks : List Stt) (hn : ks.length ≤ 2097152) : Ev (fun k => spec_keGood.f k (ks.map tx)) (keysOk ks) := by
  unfold spec_keGood.f keysOk
  rw [l1In_eq, List.length_map]
  by_cases c : 1 ≤ ks.length ∧ ks.length ≤ 10
  · rw [decide_eq_true c, Bool.true_and]
    exact Ev.congr (fun k => by rw [obind, if_pos (by rw [decide_eq_true_eq]; omega)]; rfl) (keGood_l0 ks (by omega) ks.length 0 (Nat.zero_add _))
  · rw [decide_eq_false c, Bool.false_and]
    exact Ev.congr (fun k => by rw [obind, if_neg (by rw [decide_eq_true_eq]; omega)]) (Ev.now _)
theorem isNeed (key : Stt) (n : Nat) (hn : n ≤ 2097152) : impl_isNeed.f (tx key) (n : Int) = some (decide (key.length = n) && key.all okk) := by
  unfold impl_isNeed.f
  rw [tx_size]
  by_cases c : key.length = n
  · rw [if_pos (by rw [c]), decide_eq_true c, Bool.true_and]
    rw [show (⟨#[48, 49, 63]⟩ : ByteArray) = ⟨[48, 49, 63].toArray⟩ from rfl, trim_eq (tx key) [48, 49, 63] (by rw [tx_size]; omega) (by decide) (by decide)]
    simp only [obind]
    rw [toList_nil, tx_data]
    have e : (key.all ([48, 49, 63].contains ·)) = key.all okk := by
      congr 1
      funext c
      simp only [okk, List.contains_cons, List.contains_nil, Bool.or_false]
    rw [show decide (Lib.trimS key [48, 49, 63] = []) = (key.all ([48, 49, 63].contains ·)) from by
      rw [Bool.eq_iff_iff]; simpa using trimS_nil key [48, 49, 63], e]
  · rw [if_neg (show ¬ ((key.length : Int) = (n : Int)) from fun h => c (Int.ofNat.inj h)), decide_eq_false c, Bool.false_and]
theorem areKeys_l0 (ks : List Stt) (hn : ks.length ≤ 2097152) : ∀ d i, i + d = ks.length → Ev (fun k => impl_AreKeys.l0 k (ks.map tx) (ks.map tx) (ks.length : Int) (i : Int)) ((List.range' i d).all (fun k => keyOk ks.length k (ks.getD k [])) && decide (1 ≤ ks.length ∧ ks.length ≤ 10)) := by
  intro d
  induction d with
  | zero =>
    intro i hi
    refine Ev.step (f := fun _ => some (decide (1 ≤ ks.length ∧ ks.length ≤ 10))) (fun k => ?_) (by
      show Ev _ (true && _)
      rw [Bool.true_and]
      exact Ev.now _)
    simp only [impl_AreKeys.l0]
    rw [if_neg (fun h => by have := Int.ofNat_lt.1 h; omega), in_eq, obind, List.length_map]
    congr 1
    rw [Bool.eq_iff_iff, decide_eq_true_eq, decide_eq_true_eq]
    omega
  | succ d ih =>
    intro i hi
    have hil : i < ks.length := by omega
    rw [List.range'_succ, List.all_cons, getD_get hil]
    obtain ⟨key, hkey⟩ : ∃ key, ks[i] = key := ⟨_, rfl⟩
    rw [hkey]
    have hne := isNeed key ks.length hn
    have e0 : ∀ k, impl_AreKeys.l0 (k + 1) (ks.map tx) (ks.map tx) (ks.length : Int) (i : Int) = (if (decide (key.length = ks.length) && key.all okk) = true then (if (i : Int) < (key.length : Int) then (if bt (tx key) (i : Int) = 63 then impl_AreKeys.l0 k (ks.map tx) (ks.map tx) (ks.length : Int) ((i + 1 : Nat) : Int) else some false) else none) else some false) := by
      intro k
      simp only [impl_AreKeys.l0]
      rw [if_pos (Int.ofNat_lt.2 hil), if_pos (Int.natCast_nonneg _), if_pos (show (i : Int) < ((ks.map tx).length : Int) by rw [List.length_map]; exact Int.ofNat_lt.2 hil), rdK hil, hkey, List.length_map, hne, obind, tx_size, succ64 (by omega)]
    unfold keyOk
    by_cases c1 : key.length = ks.length
    · have hik : i < key.length := by omega
      have hb := bt_tx hik
      rw [decide_eq_true c1, Bool.true_and, List.getElem?_eq_getElem hik]
      by_cases c2 : key.all okk = true
      · by_cases c3 : key[i] = 63
        · rw [c2, c3]
          simp only [beq_self_eq_true, Bool.true_and]
          exact Ev.step (fun k => by rw [e0, decide_eq_true c1, c2, if_pos (show (true && true) = true from rfl), if_pos (Int.ofNat_lt.2 hik), if_pos (by rw [hb]; exact (is63 _).2 c3)]) (ih (i + 1) (by omega))
        · have e : (some key[i] == some (63 : UInt8)) = false := by simpa using c3
          rw [e, Bool.false_and, Bool.false_and, Bool.false_and]
          exact Ev.step (f := fun _ => some false) (fun k => by rw [e0, decide_eq_true c1, c2, if_pos (show (true && true) = true from rfl), if_pos (Int.ofNat_lt.2 hik), if_neg (by rw [hb]; exact fun h => c3 ((is63 _).1 h))]) (Ev.now _)
      · rw [Bool.eq_false_iff.2 c2, Bool.and_false, Bool.false_and, Bool.false_and]
        exact Ev.step (f := fun _ => some false) (fun k => by rw [e0, Bool.eq_false_iff.2 c2, Bool.and_false, if_neg Bool.false_ne_true]) (Ev.now _)
    · rw [decide_eq_false c1, Bool.false_and, Bool.false_and, Bool.false_and]
      exact Ev.step (f := fun _ => some false) (fun k => by rw [e0, decide_eq_false c1, Bool.false_and, if_neg Bool.false_ne_true]) (Ev.now _)
theorem areKeys (ks : List Stt) (hn : ks.length ≤ 2097152) : Ev (fun k => impl_AreKeys.f k (ks.map tx)) (keysOk ks) := by
  have h := areKeys_l0 ks hn ks.length 0 (Nat.zero_add _)
  rw [Bool.and_comm] at h
  unfold impl_AreKeys.f
  rw [List.length_map]
  exact h
/-! ### Keys and states -/
theorem keys_parts {ks : List Stt} (h : keysOk ks = true) : (1 ≤ ks.length ∧ ks.length ≤ 10) ∧ ∀ k (hk : k < ks.length), ks[k].length = ks.length ∧ ks[k][k]? = some 63 ∧ ks[k].all okk = true := by
  unfold keysOk at h
  rw [Bool.and_eq_true, decide_eq_true_eq, List.all_eq_true] at h
  refine ⟨h.1, fun k hk => ?_⟩
  have h2 := h.2 k (by simp [List.mem_range'_1, hk])
  unfold keyOk at h2
  rw [getD_get hk] at h2
  simp only [Bool.and_eq_true, decide_eq_true_eq, beq_iff_eq] at h2
  exact h2
/-! ### Fitting -/

theorem ev_copy {α : Type} (g : Nat → List α → Int → Option (List α)) (src : List α)
    (hs : ∀ i (hi : i < src.length) (acc : List α), acc.length = src.length → ∀ k, g (k + 1) acc (i : Int) = g k (acc.set i src[i]) ((i + 1 : Nat) : Int))
    (he : ∀ acc : List α, ∀ k, g (k + 1) acc ((src.length : Nat) : Int) = some acc) :
    ∀ d i acc, i + d = src.length → acc.length = src.length → acc.take i = src.take i → Ev (fun k => g k acc (i : Int)) src
  | 0, i, acc, h, hl, ht => by
    obtain rfl : i = src.length := by omega
    rw [List.take_length, ← hl, List.take_length] at ht
    subst ht
    exact Ev.step (f := fun _ => some acc) (fun k => he acc k) (Ev.now _)
  | d + 1, i, acc, h, hl, ht => by
    have hi : i < src.length := by omega
    refine Ev.step (fun k => hs i hi acc hl k) (ev_copy g src hs he d (i + 1) (acc.set i src[i]) (by omega) (by rw [List.length_set]; exact hl) ?_)
    rw [List.take_succ_eq_append_getElem (by rw [List.length_set, hl]; exact hi), List.take_set_of_le (Nat.le_refl i), ht, List.getElem_set_self, ← List.take_succ_eq_append_getElem hi]

theorem toStringS (l : List ByteArray) (hl : l.length ≤ 1048576) : Ev (fun k => laws_toStringS.f k l) l := by
  unfold laws_toStringS.f
  refine Ev.congr (fun k => by rw [if_pos (Int.natCast_nonneg _), Int.toNat_natCast, if_pos (Nat.le_trans hl (by decide))]) ?_
  refine ev_copy (fun k acc i => laws_toStringS.l0 k l acc i) l (fun i hi acc ha k => ?_) (fun acc k => ?_) l.length 0 _ (Nat.zero_add _) (List.length_replicate ..) rfl
  · simp only [laws_toStringS.l0]
    rw [if_pos (Int.ofNat_lt.2 hi), if_pos (Int.natCast_nonneg _), if_pos (by rw [ha]; exact Int.ofNat_lt.2 hi), rdS_get hi, Int.toNat_natCast, succ64 (by omega)]
  · simp only [laws_toStringS.l0]
    rw [if_neg (Int.lt_irrefl _)]
theorem eqStringS (l : List ByteArray) (hl : l.length ≤ 1048576) : Ev (fun k => laws_eqStringS.f k l l) true := by
  unfold laws_eqStringS.f
  refine Ev.congr (fun k => if_pos rfl) ?_
  have h := ev_all (fun k i => laws_eqStringS.l0 k l l i) (fun _ => true) l.length ?_ ?_ ?_ l.length 0 (Nat.zero_add _)
  · rwa [List.all_eq_true.2 (fun _ _ => rfl)] at h
  · intro i hi _ r hr
    refine Ev.step (fun k => ?_) hr
    simp only [laws_eqStringS.l0]
    rw [if_pos (Int.ofNat_lt.2 hi), if_pos (Int.natCast_nonneg _), if_pos (Int.ofNat_lt.2 hi), if_pos trivial, succ64 (by omega)]
  · intro i hi h
    simp at h
  · refine Ev.step (f := fun _ => some true) (fun k => ?_) (Ev.now _)
    simp only [laws_eqStringS.l0]
    rw [if_neg (Int.lt_irrefl _)]
theorem szStringS (l : List ByteArray) (hl : l.length ≤ maxLen) (hs : ∀ x ∈ l, x.size ≤ maxLen) : ∃ t, Ev (fun k => laws_szStringS.f k l 1048576) t ∧ (t < 0 ∨ l.length ≤ 1048576) := by
  have hm : maxLen ≤ 9223372036854775807 := by decide
  unfold laws_szStringS.f
  rw [w64 (n := 1048576 - (l.length : Int)) (by omega) (by omega)]
  by_cases h1 : (1048576 : Int) - (l.length : Int) < 0
  · exact ⟨-1, Ev.congr (fun k => if_pos h1) (Ev.now _), Or.inl (by decide)⟩
  · have hlen : l.length ≤ 1048576 := by omega
    have key : ∀ d i (x : Int), i + d = l.length → 0 ≤ x → x ≤ 1048576 → ∃ t, Ev (fun k => laws_szStringS.l0 k l x (i : Int)) t := by
      intro d
      induction d with
      | zero =>
        intro i x hi _ _
        refine ⟨x, Ev.step (f := fun _ => some x) (fun k => ?_) (Ev.now _)⟩
        simp only [laws_szStringS.l0]
        rw [if_neg (fun h => by have := Int.ofNat_lt.1 h; omega)]
      | succ d ih =>
        intro i x hi h0 h9
        have hil : i < l.length := by omega
        obtain ⟨n, hn⟩ : ∃ n, (l[i]).size = n := ⟨_, rfl⟩
        have hsz : n ≤ maxLen := by rw [← hn]; exact hs _ (List.getElem_mem hil)
        have hw : wrap64 (x - (n : Int)) = x - (n : Int) := w64 (by omega) (by omega)
        by_cases hc : x - (n : Int) < 0
        · refine ⟨-1, Ev.step (f := fun _ => some (-1)) (fun k => ?_) (Ev.now _)⟩
          simp only [laws_szStringS.l0]
          rw [if_pos (Int.ofNat_lt.2 hil), if_pos (Int.natCast_nonneg _), rdS_get hil, hn, hw, if_pos hc]
        · obtain ⟨t, ht⟩ := ih (i + 1) (x - (n : Int)) (by omega) (by omega) (by omega)
          refine ⟨t, Ev.step (fun k => ?_) ht⟩
          simp only [laws_szStringS.l0]
          rw [if_pos (Int.ofNat_lt.2 hil), if_pos (Int.natCast_nonneg _), rdS_get hil, hn, hw, if_neg hc, succ64 (by omega)]
    obtain ⟨t, ht⟩ := key l.length 0 (1048576 - (l.length : Int)) (Nat.zero_add _) (by omega) (by omega)
    exact ⟨t, Ev.congr (fun k => if_neg h1) ht, Or.inr hlen⟩
theorem as_tx (l : List ByteArray) : ∃ ks : List Stt, l = ks.map tx := ⟨l.map (fun b => b.data.toList), by
  rw [List.map_map]
  have : (tx ∘ fun b : ByteArray => b.data.toList) = id := by funext b; exact tx_self b
  rw [this, List.map_id]⟩

theorem extract_list (s : ByteArray) (a b : Nat) : (s.extract a b).data.toList = (s.data.toList.take b).drop a := by
  rw [ByteArray.data_extract, Array.toList_extract, List.extract_eq_take_drop, List.drop_take]

theorem app_tx (a b : Stt) : tx a ++ tx b = tx (a ++ b) := by
  apply ba_ext
  rw [ByteArray.data_append, Array.toList_append, tx_data, tx_data, tx_data]
theorem cut_tx (l : Stt) (a b : Nat) : (tx l).extract a b = tx ((l.take b).drop a) := ba_ext (by rw [extract_list, tx_data, tx_data])
end Go.Proofs.YtnmepnpjjnonmaaDoor.Lem
