/-
  What the printed functions on keys come to, in plain words: the reference's and the program's alike.
-/
import Derived.Test.YtdgpkdgpmidaoaaDoorLemFoundK
namespace Go.Proofs.YtdgpkdgpmidaoaaDoor.Lem
open Go.RowKit Go.Proofs.YtdgpkdgpmidaoaaDoor.PK Go.Proofs.YtdgpkdgpmidaoaaDoorW.PrintWords Go.Proofs.YtdgpkdgpmidaoaaDoorW.PrintLast Go.Proofs.YtdgpkdgpmidaoaaDoorW.PrintMore Go.Proofs.YtdgpkdgpmidaoaaDoor.Ring Go.Proofs.YtdgpkdgpmidaoaaDoor.Bfs
set_option linter.unusedVariables false
set_option linter.unusedSimpArgs false

def okk (c : UInt8) : Bool := c == 48 || (c == 49 || c == 63)
def keyOk (n k : Nat) (key : Stt) : Bool := decide (key.length = n) && ((key[k]? == some 63) && key.all okk)
def keysOk (ks : List Stt) : Bool := decide (1 ≤ ks.length ∧ ks.length ≤ 10) && (List.range' 0 ks.length).all (fun k => keyOk ks.length k (ks.getD k []))
theorem bt_tx {l : Stt} {i : Nat} (h : i < l.length) : bt (tx l) (i : Int) = (l[i].toNat : Int) := bt_opt (by rw [tx_data]; exact List.getElem?_eq_getElem h)
theorem is63 (c : UInt8) : ((c.toNat : Int) = 63) ↔ c = 63 := toNat_eq (n := 63) (by decide)
theorem okk_or (c : UInt8) : okk c = true ↔ (c = 63 ∨ c = 48 ∨ c = 49) := by
  unfold okk
  simp
  constructor
  · rintro (h | h | h) <;> simp [h]
  · rintro (h | h | h) <;> simp [h]
theorem rdK {ks : List Stt} {i : Nat} (h : i < ks.length) : rdOf ByteArray.empty (ks.map tx) (i : Int) = tx ks[i] := by
  rw [rdS_get (by rw [List.length_map]; exact h), List.getElem_map]
theorem getD_get {ks : List Stt} {i : Nat} (h : i < ks.length) : ks.getD i [] = ks[i] := by simp [List.getD, h]
theorem keGood_l1 (ks : List Stt) (i : Nat) (key : Stt) (hk : key.length < 4611686018427387904) (hi : i < 4611686018427387904) (R : Bool) (h : Ev (fun k => spec_keGood.l0 k (ks.map tx) (ks.map tx) (ks.length : Int) ((i + 1 : Nat) : Int)) R) : ∀ d j, j + d = key.length →
    Ev (fun k => spec_keGood.l1 k (ks.map tx) (tx key) (j : Int) (ks.map tx) (ks.length : Int) (i : Int)) ((key.drop j).all okk && R) := by
  intro d
  induction d with
  | zero =>
    intro j hj
    rw [List.drop_eq_nil_of_le (by omega), List.all_nil, Bool.true_and]
    refine Ev.step (fun k => ?_) h
    simp only [spec_keGood.l1]
    rw [tx_size, if_neg (fun h => by have := Int.ofNat_lt.1 h; omega), succ64 hi]
  | succ d ih =>
    intro j hj
    have hjl : j < key.length := by omega
    rw [List.drop_eq_getElem_cons hjl, List.all_cons]
    have hb := bt_tx hjl
    have e0 : ∀ k, spec_keGood.l1 (k + 1) (ks.map tx) (tx key) (j : Int) (ks.map tx) (ks.length : Int) (i : Int) = (if key[j] = 63 then spec_keGood.l1 k (ks.map tx) (tx key) ((j + 1 : Nat) : Int) (ks.map tx) (ks.length : Int) (i : Int) else (if key[j] = 48 then spec_keGood.l1 k (ks.map tx) (tx key) ((j + 1 : Nat) : Int) (ks.map tx) (ks.length : Int) (i : Int) else (if key[j] = 49 then spec_keGood.l1 k (ks.map tx) (tx key) ((j + 1 : Nat) : Int) (ks.map tx) (ks.length : Int) (i : Int) else some false))) := by
      intro k
      simp only [spec_keGood.l1]
      rw [if_pos (show (j : Int) < ((tx key).size : Int) by rw [tx_size]; exact Int.ofNat_lt.2 hjl), if_pos (Int.natCast_nonneg _), hb, succ64 (by omega)]
      simp only [is63, is48, is49]
    by_cases c1 : key[j] = 63
    · rw [(okk_or key[j]).2 (Or.inl c1), Bool.true_and]
      exact Ev.step (fun k => by rw [e0, if_pos c1]) (ih (j + 1) (by omega))
    · by_cases c2 : key[j] = 48
      · rw [(okk_or key[j]).2 (Or.inr (Or.inl c2)), Bool.true_and]
        exact Ev.step (fun k => by rw [e0, if_neg c1, if_pos c2]) (ih (j + 1) (by omega))
      · by_cases c3 : key[j] = 49
        · rw [(okk_or key[j]).2 (Or.inr (Or.inr c3)), Bool.true_and]
          exact Ev.step (fun k => by rw [e0, if_neg c1, if_neg c2, if_pos c3]) (ih (j + 1) (by omega))
        · have : okk key[j] = false := Bool.eq_false_iff.2 (fun h => by rcases (okk_or _).1 h with h | h | h <;> contradiction)
          rw [this, Bool.false_and, Bool.false_and]
          exact Ev.step (f := fun _ => some false) (fun k => by rw [e0, if_neg c1, if_neg c2, if_neg c3]) (Ev.now _)
theorem keGood_l0 (ks : List Stt) (hn : ks.length < 4611686018427387904) : ∀ d i, i + d = ks.length → Ev (fun k => spec_keGood.l0 k (ks.map tx) (ks.map tx) (ks.length : Int) (i : Int)) ((List.range' i d).all (fun k => keyOk ks.length k (ks.getD k []))) := by
  intro d
  induction d with
  | zero =>
    intro i hi
    refine Ev.step (f := fun _ => some true) (fun k => ?_) (Ev.now _)
    simp only [spec_keGood.l0]
    rw [if_neg (fun h => by have := Int.ofNat_lt.1 h; omega)]
  | succ d ih =>
    intro i hi
    have hil : i < ks.length := by omega
    rw [List.range'_succ, List.all_cons, getD_get hil]
    obtain ⟨key, hkey⟩ : ∃ key, ks[i] = key := ⟨_, rfl⟩
    rw [hkey]
    have pre : ∀ (b : Bool) r, Ev (fun k => spec_keGood.j1 k (ks.map tx) (tx key) (ks.map tx) (ks.length : Int) (i : Int) b) r → (∀ k, (if ((tx key).size : Int) = ((ks.map tx).length : Int) then (if (i : Int) < ((tx key).size : Int) then (spec_keGood.j1 k (ks.map tx) (tx key) (ks.map tx) (ks.length : Int) (i : Int) ((bt (tx key) (i : Int)) != 63)) else (none)) else (spec_keGood.j1 k (ks.map tx) (tx key) (ks.map tx) (ks.length : Int) (i : Int) true)) = spec_keGood.j1 k (ks.map tx) (tx key) (ks.map tx) (ks.length : Int) (i : Int) b) → Ev (fun k => spec_keGood.l0 k (ks.map tx) (ks.map tx) (ks.length : Int) (i : Int)) r := by
      intro b r h he
      refine Ev.step (fun k => ?_) h
      simp only [spec_keGood.l0]
      rw [if_pos (Int.ofNat_lt.2 hil), if_pos (Int.natCast_nonneg _), if_pos (show (i : Int) < ((ks.map tx).length : Int) by rw [List.length_map]; exact Int.ofNat_lt.2 hil), rdK hil, hkey]
      exact he k
    have jt : Ev (fun k => spec_keGood.j1 k (ks.map tx) (tx key) (ks.map tx) (ks.length : Int) (i : Int) true) false := Ev.step (f := fun _ => some false) (fun k => by simp [spec_keGood.j1]) (Ev.now _)
    unfold keyOk
    by_cases c1 : key.length = ks.length
    · have hik : i < key.length := by omega
      have hb := bt_tx hik
      rw [decide_eq_true c1, Bool.true_and, List.getElem?_eq_getElem hik]
      by_cases c2 : key[i] = 63
      · have hb2 : (bt (tx key) (i : Int) != 63) = false := by rw [hb, bne_eq_false_iff_eq]; exact (is63 _).2 c2
        have h1 := keGood_l1 ks i key (by omega) (by omega) _ (ih (i + 1) (by omega)) key.length 0 (Nat.zero_add _)
        rw [List.drop_zero] at h1
        rw [c2]
        simp only [beq_self_eq_true, Bool.true_and]
        refine pre false _ (Ev.step (fun k => by simp only [spec_keGood.j1]; rw [if_neg Bool.false_ne_true]; rfl) h1) (fun k => ?_)
        rw [tx_size, List.length_map, if_pos (by rw [c1]), if_pos (Int.ofNat_lt.2 hik), hb2]
      · have hb2 : (bt (tx key) (i : Int) != 63) = true := by rw [hb, bne_iff_ne]; exact fun h => c2 ((is63 _).1 h)
        have e : (some key[i] == some (63 : UInt8)) = false := by simpa using c2
        rw [e, Bool.false_and, Bool.false_and]
        refine pre true _ jt (fun k => ?_)
        rw [tx_size, List.length_map, if_pos (by rw [c1]), if_pos (Int.ofNat_lt.2 hik), hb2]
    · rw [decide_eq_false c1, Bool.false_and, Bool.false_and]
      refine pre true _ jt (fun k => ?_)
      rw [tx_size, List.length_map, if_neg (show ¬ ((key.length : Int) = (ks.length : Int)) from fun h => c1 (Int.ofNat.inj h))]
theorem keGood (ks : List Stt) (hn : ks.length ≤ 1048576) : Ev (fun k => spec_keGood.f k (ks.map tx)) (keysOk ks) := by
  unfold spec_keGood.f keysOk
  rw [l1In_eq, List.length_map]
  by_cases c : 1 ≤ ks.length ∧ ks.length ≤ 10
  · rw [decide_eq_true c, Bool.true_and]
    exact Ev.congr (fun k => by rw [obind, if_pos (by rw [decide_eq_true_eq]; omega)]; rfl) (keGood_l0 ks (by omega) ks.length 0 (Nat.zero_add _))
  · rw [decide_eq_false c, Bool.false_and]
    exact Ev.congr (fun k => by rw [obind, if_neg (by rw [decide_eq_true_eq]; omega)]) (Ev.now _)
theorem isNeed (key : Stt) (n : Nat) (hn : n ≤ 1048576) : impl_isNeed.f (tx key) (n : Int) = some (decide (key.length = n) && key.all okk) := by
  unfold impl_isNeed.f
  rw [tx_size]
  by_cases c : key.length = n
  · rw [if_pos (by rw [c]), decide_eq_true c, Bool.true_and]
    rw [show (⟨#[48, 49, 63]⟩ : ByteArray) = ⟨[48, 49, 63].toArray⟩ from rfl, trim_eq (tx key) [48, 49, 63] (by rw [tx_size]; omega) (by decide) (by decide)]
    simp only [obind]
    rw [toList_nil, tx_data]
    have e : (key.all ([48, 49, 63].contains ·)) = key.all okk := by
      congr 1
      funext c
      simp only [okk, List.contains_cons, List.contains_nil, Bool.or_false]
    rw [show decide (Lib.trimS key [48, 49, 63] = []) = (key.all ([48, 49, 63].contains ·)) from by
      rw [Bool.eq_iff_iff]; simpa using trimS_nil key [48, 49, 63], e]
  · rw [if_neg (show ¬ ((key.length : Int) = (n : Int)) from fun h => c (Int.ofNat.inj h)), decide_eq_false c, Bool.false_and]
theorem areKeys_l0 (ks : List Stt) (hn : ks.length ≤ 1048576) : ∀ d i, i + d = ks.length → Ev (fun k => impl_AreKeys.l0 k (ks.map tx) (ks.map tx) (ks.length : Int) (i : Int)) ((List.range' i d).all (fun k => keyOk ks.length k (ks.getD k [])) && decide (1 ≤ ks.length ∧ ks.length ≤ 10)) := by
  intro d
  induction d with
  | zero =>
    intro i hi
    refine Ev.step (f := fun _ => some (decide (1 ≤ ks.length ∧ ks.length ≤ 10))) (fun k => ?_) (by
      show Ev _ (true && _)
      rw [Bool.true_and]
      exact Ev.now _)
    simp only [impl_AreKeys.l0]
    rw [if_neg (fun h => by have := Int.ofNat_lt.1 h; omega), in_eq, obind, List.length_map]
    congr 1
    rw [Bool.eq_iff_iff, decide_eq_true_eq, decide_eq_true_eq]
    omega
  | succ d ih =>
    intro i hi
    have hil : i < ks.length := by omega
    rw [List.range'_succ, List.all_cons, getD_get hil]
    obtain ⟨key, hkey⟩ : ∃ key, ks[i] = key := ⟨_, rfl⟩
    rw [hkey]
    have hne := isNeed key ks.length hn
    have e0 : ∀ k, impl_AreKeys.l0 (k + 1) (ks.map tx) (ks.map tx) (ks.length : Int) (i : Int) = (if (decide (key.length = ks.length) && key.all okk) = true then (if (i : Int) < (key.length : Int) then (if bt (tx key) (i : Int) = 63 then impl_AreKeys.l0 k (ks.map tx) (ks.map tx) (ks.length : Int) ((i + 1 : Nat) : Int) else some false) else none) else some false) := by
      intro k
      simp only [impl_AreKeys.l0]
      rw [if_pos (Int.ofNat_lt.2 hil), if_pos (Int.natCast_nonneg _), if_pos (show (i : Int) < ((ks.map tx).length : Int) by rw [List.length_map]; exact Int.ofNat_lt.2 hil), rdK hil, hkey, List.length_map, hne, obind, tx_size, succ64 (by omega)]
    unfold keyOk
    by_cases c1 : key.length = ks.length
    · have hik : i < key.length := by omega
      have hb := bt_tx hik
      rw [decide_eq_true c1, Bool.true_and, List.getElem?_eq_getElem hik]
      by_cases c2 : key.all okk = true
      · by_cases c3 : key[i] = 63
        · rw [c2, c3]
          simp only [beq_self_eq_true, Bool.true_and]
          exact Ev.step (fun k => by rw [e0, decide_eq_true c1, c2, if_pos (show (true && true) = true from rfl), if_pos (Int.ofNat_lt.2 hik), if_pos (by rw [hb]; exact (is63 _).2 c3)]) (ih (i + 1) (by omega))
        · have e : (some key[i] == some (63 : UInt8)) = false := by simpa using c3
          rw [e, Bool.false_and, Bool.false_and, Bool.false_and]
          exact Ev.step (f := fun _ => some false) (fun k => by rw [e0, decide_eq_true c1, c2, if_pos (show (true && true) = true from rfl), if_pos (Int.ofNat_lt.2 hik), if_neg (by rw [hb]; exact fun h => c3 ((is63 _).1 h))]) (Ev.now _)
      · rw [Bool.eq_false_iff.2 c2, Bool.and_false, Bool.false_and, Bool.false_and]
        exact Ev.step (f := fun _ => some false) (fun k => by rw [e0, Bool.eq_false_iff.2 c2, Bool.and_false, if_neg Bool.false_ne_true]) (Ev.now _)
    · rw [decide_eq_false c1, Bool.false_and, Bool.false_and, Bool.false_and]
      exact Ev.step (f := fun _ => some false) (fun k => by rw [e0, decide_eq_false c1, Bool.false_and, if_neg Bool.false_ne_true]) (Ev.now _)
theorem areKeys (ks : List Stt) (hn : ks.length ≤ 1048576) : Ev (fun k => impl_AreKeys.f k (ks.map tx)) (keysOk ks) := by
  have h := areKeys_l0 ks hn ks.length 0 (Nat.zero_add _)
  rw [Bool.and_comm] at h
  unfold impl_AreKeys.f
  rw [List.length_map]
  exact h
/-! ### Keys and states -/
def stK (n : Nat) (s : Stt) : Bool := isSt s && decide (s.length = n)
def askK (ks : List Stt) (s : Stt) : Bool := keysOk ks && stK ks.length s
theorem keAsked (ks : List Stt) (s : Stt) (hn : ks.length ≤ 1048576) : Ev (fun k => spec_keAsked.f k (ks.map tx) (tx s)) (askK ks s) := by
  unfold spec_keAsked.f askK stK
  refine Ev.bind (keGood ks hn) ?_
  cases keysOk ks with
  | false => exact Ev.congr (fun k => if_neg Bool.false_ne_true) (Ev.now _)
  | true =>
    have h := riGood (tx s)
    rw [tx_data] at h
    refine Ev.congr (fun k => if_pos rfl) (Ev.bind h ?_)
    cases isSt s with
    | false => exact Ev.congr (fun k => if_neg Bool.false_ne_true) (Ev.now _)
    | true =>
      refine Ev.congr (fun k => ?_) (Ev.now _)
      rw [if_pos rfl, tx_size, List.length_map]
      congr 1
      rw [Bool.eq_iff_iff]
      simp
      omega
theorem keyedRule (ks : List Stt) (s : Stt) : Ev (fun k => impl_keyed_1.rule (ks.map tx) k (tx s)) (!(stK ks.length s)) := by
  unfold impl_keyed_1.rule stK
  rw [isState, tx_data, tx_size, List.length_map]
  refine Ev.congr (fun k => obind _ _) ?_
  cases isSt s with
  | false => exact Ev.congr (fun k => if_neg Bool.false_ne_true) (Ev.now _)
  | true =>
    refine Ev.congr (fun k => ?_) (Ev.now _)
    rw [if_pos rfl]
    simp
theorem index_str {rule : Nat → ByteArray → Option Bool} {q : ByteArray → Bool} (l : List ByteArray) (hl : l.length < 4611686018427387904) (hq : ∀ x ∈ l, Ev (fun k => rule k x) (q x)) :
    ∀ d i, i + d = l.length → ∃ t : Int, Ev (fun k => slices_IndexFunc_string_string.l0 rule k l (l.length : Int) (i : Int)) t ∧ decide (0 ≤ t) = (l.drop i).any q := by
  intro d
  induction d with
  | zero =>
    intro i hi
    refine ⟨-1, Ev.step (f := fun _ => some (-1)) (fun k => ?_) (Ev.now _), by rw [List.drop_eq_nil_of_le (by omega)]; rfl⟩
    simp only [slices_IndexFunc_string_string.l0]
    rw [if_neg (by omega)]
  | succ d ih =>
    intro i hi
    have hil : i < l.length := by omega
    have hd := List.drop_eq_getElem_cons hil
    have hlt : (i : Int) < (l.length : Int) := Int.ofNat_lt.2 hil
    have hx := hq l[i] (List.getElem_mem hil)
    cases hb : q l[i] with
    | true =>
      rw [hb] at hx
      refine ⟨(i : Int), ev_num hx (Ev.now (i : Int)) (fun k hk => ?_), by rw [hd, List.any_cons, hb]; simp⟩
      simp only [slices_IndexFunc_string_string.l0]
      rw [if_pos hlt, if_pos (Int.natCast_nonneg _), if_pos hlt, rdS_get hil, hk, obind, if_pos rfl]
    | false =>
      rw [hb] at hx
      obtain ⟨t, h1, h2⟩ := ih (i + 1) (by omega)
      refine ⟨t, ev_num hx h1 (fun k hk => ?_), by rw [hd, List.any_cons, hb, Bool.false_or]; exact h2⟩
      simp only [slices_IndexFunc_string_string.l0]
      rw [if_pos hlt, if_pos (Int.natCast_nonneg _), if_pos hlt, rdS_get hil, hk, obind, if_neg (by simp), succ64 (by omega)]
theorem contains_str {rule : Nat → ByteArray → Option Bool} {q : ByteArray → Bool} (l : List ByteArray) (hl : l.length < 4611686018427387904) (hq : ∀ x ∈ l, Ev (fun k => rule k x) (q x)) : Ev (fun k => slices_ContainsFunc_string_string.f rule k l) (l.any q) := by
  obtain ⟨t, h1, h2⟩ := index_str l hl hq l.length 0 (Nat.zero_add _)
  rw [List.drop_zero] at h2
  rw [← h2]
  exact Ev.bind (f := fun _ t => some (decide (0 ≤ t))) h1 (Ev.now _)
theorem keyed (ks ss : List Stt) (hn : ks.length ≤ 1048576) (hs : ss.length ≤ 1048576) : Ev (fun k => impl_keyed.f k (ks.map tx) (ss.map tx)) (keysOk ks && ss.all (stK ks.length)) := by
  unfold impl_keyed.f
  refine Ev.bind (areKeys ks hn) ?_
  cases keysOk ks with
  | false => exact Ev.congr (fun k => if_neg Bool.false_ne_true) (Ev.now _)
  | true =>
    have h := contains_str (rule := impl_keyed_1.rule (ks.map tx)) (q := fun b => !(stK ks.length b.data.toList)) (ss.map tx) (by rw [List.length_map]; omega) (fun x hx => by
      obtain ⟨s, _, rfl⟩ := List.mem_map.1 hx
      rw [tx_data]
      exact keyedRule ks s)
    refine Ev.congr (fun k => if_pos rfl) (Ev.bind (f := fun _ b => some (!b)) h (Ev.congr (fun k => ?_) (Ev.now _)))
    rw [Bool.true_and, List.any_map]
    congr 1
    have e : ((fun b : ByteArray => !(stK ks.length b.data.toList)) ∘ tx) = (fun s => !(stK ks.length s)) := by
      funext s
      simp only [Function.comp_apply, tx_data]
    rw [e]
    induction ss with
    | nil => rfl
    | cons a l ih =>
      rw [List.any_cons, List.all_cons, Bool.not_or, Bool.not_not]
      have hl : l.length ≤ 1048576 := by rw [List.length_cons] at hs; omega
      have := ih hl (contains_str (rule := impl_keyed_1.rule (ks.map tx)) (q := fun b => !(stK ks.length b.data.toList)) (l.map tx) (by rw [List.length_map]; omega) (fun x hx => by
        obtain ⟨s, _, rfl⟩ := List.mem_map.1 hx
        rw [tx_data]
        exact keyedRule ks s))
      rw [this]
theorem keyed_one (ks : List Stt) (s : Stt) (hn : ks.length ≤ 1048576) : Ev (fun k => impl_keyed.f k (ks.map tx) [tx s]) (askK ks s) := by
  have h := keyed ks [s] hn (by simp)
  simp only [List.all_cons, List.all_nil, Bool.and_true] at h
  exact h
theorem keyed_two (ks : List Stt) (s t : Stt) (hn : ks.length ≤ 1048576) : Ev (fun k => impl_keyed.f k (ks.map tx) [tx s, tx t]) (askK ks s && askK ks t) := by
  have h := keyed ks [s, t] hn (by simp)
  have e : (askK ks s && askK ks t) = (keysOk ks && [s, t].all (stK ks.length)) := by
    unfold askK
    cases keysOk ks <;> simp
  rw [e]
  exact h
def okN (n : Nat) (s : Stt) : Prop := s.length = n ∧ s.all okc = true
theorem ask_parts {ks : List Stt} {s : Stt} (h : askK ks s = true) : keysOk ks = true ∧ okN ks.length s := by
  unfold askK stK at h
  simp only [Bool.and_eq_true, decide_eq_true_eq] at h
  exact ⟨h.1, h.2.2, (isSt_len h.2.1).2.2⟩
theorem keys_parts {ks : List Stt} (h : keysOk ks = true) : (1 ≤ ks.length ∧ ks.length ≤ 10) ∧ ∀ k (hk : k < ks.length), ks[k].length = ks.length ∧ ks[k][k]? = some 63 ∧ ks[k].all okk = true := by
  unfold keysOk at h
  rw [Bool.and_eq_true, decide_eq_true_eq, List.all_eq_true] at h
  refine ⟨h.1, fun k hk => ?_⟩
  have h2 := h.2 k (by simp [List.mem_range'_1, hk])
  unfold keyOk at h2
  rw [getD_get hk] at h2
  simp only [Bool.and_eq_true, decide_eq_true_eq, beq_iff_eq] at h2
  exact h2
/-! ### Fitting -/
def fitAt (key s : Stt) (i : Nat) : Bool := key.getD i 0 == 63 || key.getD i 0 == s.getD i 0
def fits (key s : Stt) : Bool := (List.range' 0 key.length).all (fitAt key s)
theorem getD_of {l : Stt} {i : Nat} (h : i < l.length) : l.getD i 0 = l[i] := by simp [List.getD, h]
theorem int_toNat_inj {a b : UInt8} : ((a.toNat : Int) = (b.toNat : Int)) ↔ a = b := ⟨fun h => UInt8.toNat_inj.1 (Int.ofNat.inj h), fun h => by rw [h]⟩
theorem okk_small {c : UInt8} (h : okk c = true) : c.toNat < 128 := by rcases (okk_or c).1 h with h | h | h <;> rw [h] <;> decide
theorem keFits (key s : Stt) (hk : key.all okk = true) (hl : key.length = s.length) (h9 : key.length ≤ 1048576) : Ev (fun k => spec_keFits.f k (tx key) (tx s)) (fits key s) := by
  have h := ev_all (fun k i => spec_keFits.l0 k (tx key) (tx s) i.toNat) (fitAt key s) key.length ?_ ?_ ?_ key.length 0 (Nat.zero_add _)
  · unfold spec_keFits.f
    refine Ev.congr (fun k => ?_) h
    rw [tx_size, if_pos (by omega)]
    rfl
  · intro i hi hp r hr
    refine Ev.step (fun k => ?_) hr
    show spec_keFits.l0 (k + 1) (tx key) (tx s) i = spec_keFits.l0 k (tx key) (tx s) (i + 1)
    have his : i < s.length := by omega
    simp only [spec_keFits.l0]
    rw [tx_size, if_pos hi, tx_data, getD_of hi, if_pos (okk_small (List.all_eq_true.1 hk _ (List.getElem_mem hi))), bt_tx hi, bt_tx his, tx_size, if_pos his]
    simp only [is63, int_toNat_inj]
    unfold fitAt at hp
    rw [getD_of hi, getD_of his] at hp
    simp only [Bool.or_eq_true, beq_iff_eq] at hp
    rcases hp with hp | hp
    · rw [if_pos hp]
    · rw [if_pos hp]
      split <;> rfl
  · intro i hi hp
    refine Ev.step (f := fun _ => some false) (fun k => ?_) (Ev.now _)
    show spec_keFits.l0 (k + 1) (tx key) (tx s) i = some false
    have his : i < s.length := by omega
    simp only [spec_keFits.l0]
    rw [tx_size, if_pos hi, tx_data, getD_of hi, if_pos (okk_small (List.all_eq_true.1 hk _ (List.getElem_mem hi))), bt_tx hi, bt_tx his, tx_size, if_pos his]
    simp only [is63, int_toNat_inj]
    unfold fitAt at hp
    rw [getD_of hi, getD_of his] at hp
    simp only [Bool.or_eq_false_iff, beq_eq_false_iff_ne] at hp
    rw [if_neg hp.1, if_neg hp.2]
  · refine Ev.step (f := fun _ => some true) (fun k => ?_) (Ev.now _)
    show spec_keFits.l0 (k + 1) (tx key) (tx s) key.length = some true
    simp only [spec_keFits.l0]
    rw [tx_size, if_neg (Nat.lt_irrefl _)]
theorem meets (key s : Stt) (hl : key.length = s.length) (h9 : key.length ≤ 1048576) : Ev (fun k => impl_meets.f k (tx key) (tx s)) (fits key s) := by
  unfold impl_meets.f
  rw [tx_size]
  refine ev_all (fun k i => impl_meets.l0 k (tx key) (tx s) (key.length : Int) i) (fitAt key s) key.length ?_ ?_ ?_ key.length 0 (Nat.zero_add _)
  · intro i hi hp r hr
    refine Ev.step (fun k => ?_) hr
    have his : i < s.length := by omega
    simp only [impl_meets.l0]
    rw [if_pos (Int.ofNat_lt.2 hi), if_pos (Int.natCast_nonneg _), tx_size, if_pos (Int.ofNat_lt.2 hi), bt_tx hi, bt_tx his, tx_size, if_pos (Int.ofNat_lt.2 his), succ64 (by omega)]
    simp only [is63, int_toNat_inj]
    unfold fitAt at hp
    rw [getD_of hi, getD_of his] at hp
    simp only [Bool.or_eq_true, beq_iff_eq] at hp
    rcases hp with hp | hp
    · rw [if_pos hp]
    · rw [if_pos hp]
      split <;> rfl
  · intro i hi hp
    refine Ev.step (f := fun _ => some false) (fun k => ?_) (Ev.now _)
    have his : i < s.length := by omega
    simp only [impl_meets.l0]
    rw [if_pos (Int.ofNat_lt.2 hi), if_pos (Int.natCast_nonneg _), tx_size, if_pos (Int.ofNat_lt.2 hi), bt_tx hi, bt_tx his, tx_size, if_pos (Int.ofNat_lt.2 his)]
    simp only [is63, int_toNat_inj]
    unfold fitAt at hp
    rw [getD_of hi, getD_of his] at hp
    simp only [Bool.or_eq_false_iff, beq_eq_false_iff_ne] at hp
    rw [if_neg hp.1, if_neg hp.2]
  · refine Ev.step (f := fun _ => some true) (fun k => ?_) (Ev.now _)
    simp only [impl_meets.l0]
    rw [if_neg (Int.lt_irrefl _)]
/-! ### Moves -/
def mvK (ks : List Stt) (s : Stt) (i : Nat) : List Nat := (List.range i).filter (fun k => fits (ks.getD k []) s)
theorem mvK_succ (ks : List Stt) (s : Stt) (i : Nat) : mvK ks s (i + 1) = if fits (ks.getD i []) s = true then mvK ks s i ++ [i] else mvK ks s i := by
  unfold mvK
  rw [List.range_succ, List.filter_append]
  by_cases h : fits (ks.getD i []) s = true
  · rw [if_pos h, List.filter_cons_of_pos (p := fun k => fits (ks.getD k []) s) h, List.filter_nil]
  · rw [if_neg h, List.filter_cons_of_neg (p := fun k => fits (ks.getD k []) s) h, List.filter_nil, List.append_nil]
theorem mvK_len (ks : List Stt) (s : Stt) (i : Nat) : (mvK ks s i).length ≤ i := by
  unfold mvK
  exact Nat.le_trans (List.length_filter_le _ _) (by simp)
theorem keMoves {ks : List Stt} {s : Stt} (hk : keysOk ks = true) (hs : okN ks.length s) : Ev (fun k => spec_keMoves.f k (ks.map tx) (tx s)) (ints (mvK ks s ks.length)) := by
  obtain ⟨⟨k1, k2⟩, k3⟩ := keys_parts hk
  have key : ∀ d i, i + d = ks.length → Ev (fun k => spec_keMoves.l0 k (tx s) (ints (mvK ks s i)) (ks.map tx) (ks.length : Int) (i : Int)) (ints (mvK ks s ks.length)) := by
    intro d
    induction d with
    | zero =>
      intro i hi
      obtain rfl : i = ks.length := by omega
      refine Ev.step (f := fun _ => some (ints (mvK ks s ks.length))) (fun k => ?_) (Ev.now _)
      simp only [spec_keMoves.l0]
      rw [if_neg (Int.lt_irrefl _)]
    | succ d ih =>
      intro i hi
      have hil : i < ks.length := by omega
      obtain ⟨a1, a2, a3⟩ := k3 i hil
      have hf := keFits ks[i] s a3 (by rw [a1, hs.1]) (by omega)
      have hlen := mvK_len ks s i
      have hsucc := mvK_succ ks s i
      rw [getD_get hil] at hsucc
      refine ev_num hf (ih (i + 1) (by omega)) (fun k hk => ?_)
      simp only [spec_keMoves.l0]
      rw [if_pos (Int.ofNat_lt.2 hil), if_pos (Int.natCast_nonneg _), if_pos (show (i : Int) < ((ks.map tx).length : Int) by rw [List.length_map]; exact Int.ofNat_lt.2 hil), rdK hil, hk, obind, hsucc, succ64 (by omega)]
      by_cases c : fits ks[i] s = true
      · rw [if_pos c, if_pos c, if_pos (by unfold ints; rw [List.length_map]; omega)]
        unfold ints
        rw [List.map_append]
        rfl
      · rw [if_neg c, if_neg c]
  have h := key ks.length 0 (Nat.zero_add _)
  unfold spec_keMoves.f
  rw [List.length_map]
  exact h
theorem keyedMoves {ks : List Stt} {s : Stt} (hk : keysOk ks = true) (hs : okN ks.length s) : Ev (fun k => impl_keyedMoves.f k (ks.map tx) (tx s)) (ints (mvK ks s ks.length)) := by
  obtain ⟨⟨k1, k2⟩, k3⟩ := keys_parts hk
  have key : ∀ d i, i + d = ks.length → Ev (fun k => impl_keyedMoves.l0 k (tx s) (ints (mvK ks s i)) (ks.map tx) (ks.length : Int) (i : Int)) (ints (mvK ks s ks.length)) := by
    intro d
    induction d with
    | zero =>
      intro i hi
      obtain rfl : i = ks.length := by omega
      refine Ev.step (f := fun _ => some (ints (mvK ks s ks.length))) (fun k => ?_) (Ev.now _)
      simp only [impl_keyedMoves.l0]
      rw [if_neg (Int.lt_irrefl _)]
    | succ d ih =>
      intro i hi
      have hil : i < ks.length := by omega
      obtain ⟨a1, a2, a3⟩ := k3 i hil
      have hf := meets ks[i] s (by rw [a1, hs.1]) (by omega)
      have hlen := mvK_len ks s i
      have hsucc := mvK_succ ks s i
      rw [getD_get hil] at hsucc
      refine ev_num hf (ih (i + 1) (by omega)) (fun k hk => ?_)
      simp only [impl_keyedMoves.l0]
      rw [if_pos (Int.ofNat_lt.2 hil), if_pos (Int.natCast_nonneg _), if_pos (show (i : Int) < ((ks.map tx).length : Int) by rw [List.length_map]; exact Int.ofNat_lt.2 hil), rdK hil, hk, obind, hsucc, succ64 (by omega)]
      by_cases c : fits ks[i] s = true
      · rw [if_pos c, if_pos c, if_pos (by unfold ints; rw [List.length_map]; omega)]
        unfold ints
        rw [List.map_append]
        rfl
      · rw [if_neg c, if_neg c]
  have h := key ks.length 0 (Nat.zero_add _)
  unfold impl_keyedMoves.f
  rw [List.length_map]
  exact h
end Go.Proofs.YtdgpkdgpmidaoaaDoor.Lem
