/-
  Keyed moves of a state, and the states by their numbers.
-/
import Derived.Test.YtnmepnpjjnonmaaDoorLemTextK
import Derived.Test.YtnmepnpjjnonmaaDoorPair
namespace Go.Proofs.YtnmepnpjjnonmaaDoor.Lem
open Go.RowKit Go.Proofs.YtnmepnpjjnonmaaDoor.PK Go.Proofs.YtnmepnpjjnonmaaDoorW.PrintWords Go.Proofs.YtnmepnpjjnonmaaDoorW.PrintLast Go.Proofs.YtnmepnpjjnonmaaDoorW.PrintMore Go.Proofs.YtnmepnpjjnonmaaDoor.Ring
set_option linter.unusedVariables false
set_option linter.unusedSimpArgs false

theorem wrap_i64 {n : Int} (h1 : -9223372036854775808 ≤ n) (h2 : n ≤ 9223372036854775807) : IntKind.i64.wrap n = n := by
  rw [IntKind.wrap_i64]
  omega
theorem and_one (a : Nat) (ha : a < 4611686018427387904) : Go.bits .and .i64 (a : Int) 1 = ((a % 2 : Nat) : Int) := by
  have h := (bits_nat .i64 62 (by decide) (fun n h0 h1 => wrap_i64 (by omega) (by have : (2 : Int) ^ 62 = 4611686018427387904 := rfl; omega)) a 1 (by omega) (by omega)).1
  rw [Nat.and_one_is_mod] at h
  exact h
theorem tdiv_two (n : Nat) : Int.tdiv (n : Int) 2 = ((n / 2 : Nat) : Int) := by
  rw [Int.tdiv_eq_ediv_of_nonneg (by omega)]
  omega
theorem shr_nat (n j : Nat) (hj : j ≤ 64) : shr .i64 (n : Int) (j : Int) = ((n / 2 ^ j : Nat) : Int) := by
  unfold shr
  have e : (j : Int).toNat = j := rfl
  rw [e, Nat.min_eq_left (by exact hj)]
  simp
theorem shl_one (j : Nat) (hj : j ≤ 62) : shl .i64 1 (j : Int) = ((2 ^ j : Nat) : Int) := by
  unfold shl
  have e : (j : Int).toNat = j := rfl
  have h : 2 ^ j ≤ 2 ^ 62 := Nat.pow_le_pow_right (by decide) hj
  have h' : (2 : Nat) ^ 62 = 4611686018427387904 := rfl
  rw [e, Nat.min_eq_left (show j ≤ IntKind.i64.bits from by show j ≤ 64; omega), Int.one_mul]
  have e2 : ((2 : Int) ^ j) = ((2 ^ j : Nat) : Int) := by simp
  rw [e2]
  generalize 2 ^ j = x at h ⊢
  exact wrap_i64 (by omega) (by omega)
theorem div_lt_big (n j : Nat) (hn : n < 4611686018427387904) : n / 2 ^ j < 4611686018427387904 := Nat.lt_of_le_of_lt (Nat.div_le_self _ _) hn
theorem stOf_take (r n : Nat) : stOf (r + 1) n = stOf r n ++ [sign n r] := by
  unfold stOf
  rw [List.range_succ]
  simp
theorem pred64 {n : Nat} (h : n < 4611686018427387904) (h1 : 1 ≤ n) : wrap64 ((n : Int) - 1) = ((n - 1 : Nat) : Int) := by rw [w64 (by omega) (by omega)]; omega
def ints (l : List Nat) : List Int := l.map fun k : Nat => (k : Int)
theorem rd_get {l : List Int} {i : Nat} (h : i < l.length) : rd l (i : Int) = l[i] := by
  show l.getD i 0 = l[i]
  simp [List.getD, h]

theorem riState_l0 (r n : Nat) (hr : r ≤ 60) (hn : n < 4611686018427387904) : ∀ (d j k : Nat), j ≤ r → r - j = d → d < k →
    spec_riState.l0 k (r : Int) (n : Int) ⟨(stOf j n).toArray⟩ (j : Int) = some ⟨(stOf r n).toArray⟩ := by
  intro d
  induction d with
  | zero =>
    intro j k hj hd hk
    obtain ⟨k, rfl⟩ : ∃ j, k = j + 1 := ⟨k - 1, by omega⟩
    have : j = r := by omega
    subst this
    simp only [spec_riState.l0]
    rw [if_neg (by omega)]
  | succ d ih =>
    intro j k hj hd hk
    obtain ⟨k, rfl⟩ : ∃ j, k = j + 1 := ⟨k - 1, by omega⟩
    have ew : wrap64 ((j : Int) + 1) = ((j + 1 : Nat) : Int) := by rw [w64 (by omega) (by omega)]; omega
    have e := ih (j + 1) k (by omega) (by omega) (by omega)
    simp only [spec_riState.l0]
    rw [if_pos (by omega), if_pos (by omega), ew, if_pos (by omega), shr_nat _ _ (by omega), shr_nat _ _ (by omega), and_one _ (div_lt_big n j hn), and_one _ (div_lt_big n (j + 1) hn)]
    have hsz : (⟨(stOf j n).toArray⟩ : ByteArray).size + 1 ≤ 9223372036854775807 := by rw [size_eq]; simp [stOf_length]; omega
    rw [if_pos hsz, append_one, append_one]
    rw [stOf_take] at e
    unfold sign at e
    by_cases h : n / 2 ^ j % 2 = n / 2 ^ (j + 1) % 2
    · rw [if_pos (by omega)]
      rw [if_pos h] at e
      exact e
    · rw [if_neg (by omega)]
      rw [if_neg h] at e
      rw [if_pos hsz]
      exact e
theorem riState (r n : Nat) (hr : r ≤ 60) (hn : n < 4611686018427387904) : Ev (fun k => spec_riState.f k (r : Int) (n : Int)) ⟨(stOf r n).toArray⟩ :=
  Ev.of (k := r + 1) (fun k => spec_riState.mono _ _ k) (riState_l0 r n hr hn r 0 (r + 1) (by omega) (by omega) (by omega))

def okN (n : Nat) (s : Stt) : Prop := s.length = n ∧ s.all okc = true
def fitAt (key s : Stt) (i : Nat) : Bool := key.getD i 0 == 63 || key.getD i 0 == s.getD i 0
def fits (key s : Stt) : Bool := (List.range' 0 key.length).all (fitAt key s)
theorem getD_of {l : Stt} {i : Nat} (h : i < l.length) : l.getD i 0 = l[i] := by simp [List.getD, h]
theorem int_toNat_inj {a b : UInt8} : ((a.toNat : Int) = (b.toNat : Int)) ↔ a = b := ⟨fun h => UInt8.toNat_inj.1 (Int.ofNat.inj h), fun h => by rw [h]⟩
theorem okk_small {c : UInt8} (h : okk c = true) : c.toNat < 128 := by rcases (okk_or c).1 h with h | h | h <;> rw [h] <;> decide
theorem keFits (key s : Stt) (hk : key.all okk = true) (hl : key.length = s.length) (h9 : key.length ≤ 1048576) : Ev (fun k => spec_keFits.f k (tx key) (tx s)) (fits key s) := by
  have h := ev_all (fun k i => spec_keFits.l0 k (tx key) (tx s) i.toNat) (fitAt key s) key.length ?_ ?_ ?_ key.length 0 (Nat.zero_add _)
  · unfold spec_keFits.f
    refine Ev.congr (fun k => ?_) h
    rw [tx_size, if_pos (by omega)]
    rfl
  · intro i hi hp r hr
    refine Ev.step (fun k => ?_) hr
    show spec_keFits.l0 (k + 1) (tx key) (tx s) i = spec_keFits.l0 k (tx key) (tx s) (i + 1)
    have his : i < s.length := by omega
    simp only [spec_keFits.l0]
    rw [tx_size, if_pos hi, tx_data, getD_of hi, if_pos (okk_small (List.all_eq_true.1 hk _ (List.getElem_mem hi))), bt_tx hi, bt_tx his, tx_size, if_pos his]
    simp only [is63, int_toNat_inj]
    unfold fitAt at hp
    rw [getD_of hi, getD_of his] at hp
    simp only [Bool.or_eq_true, beq_iff_eq] at hp
    rcases hp with hp | hp
    · rw [if_pos hp]
    · rw [if_pos hp]
      split <;> rfl
  · intro i hi hp
    refine Ev.step (f := fun _ => some false) (fun k => ?_) (Ev.now _)
    show spec_keFits.l0 (k + 1) (tx key) (tx s) i = some false
    have his : i < s.length := by omega
    simp only [spec_keFits.l0]
    rw [tx_size, if_pos hi, tx_data, getD_of hi, if_pos (okk_small (List.all_eq_true.1 hk _ (List.getElem_mem hi))), bt_tx hi, bt_tx his, tx_size, if_pos his]
    simp only [is63, int_toNat_inj]
    unfold fitAt at hp
    rw [getD_of hi, getD_of his] at hp
    simp only [Bool.or_eq_false_iff, beq_eq_false_iff_ne] at hp
    rw [if_neg hp.1, if_neg hp.2]
  · refine Ev.step (f := fun _ => some true) (fun k => ?_) (Ev.now _)
    show spec_keFits.l0 (k + 1) (tx key) (tx s) key.length = some true
    simp only [spec_keFits.l0]
    rw [tx_size, if_neg (Nat.lt_irrefl _)]
theorem meets (key s : Stt) (hl : key.length = s.length) (h9 : key.length ≤ 1048576) : Ev (fun k => impl_meets.f k (tx key) (tx s)) (fits key s) := by
  unfold impl_meets.f
  rw [tx_size]
  refine ev_all (fun k i => impl_meets.l0 k (tx key) (tx s) (key.length : Int) i) (fitAt key s) key.length ?_ ?_ ?_ key.length 0 (Nat.zero_add _)
  · intro i hi hp r hr
    refine Ev.step (fun k => ?_) hr
    have his : i < s.length := by omega
    simp only [impl_meets.l0]
    rw [if_pos (Int.ofNat_lt.2 hi), if_pos (Int.natCast_nonneg _), tx_size, if_pos (Int.ofNat_lt.2 hi), bt_tx hi, bt_tx his, tx_size, if_pos (Int.ofNat_lt.2 his), succ64 (by omega)]
    simp only [is63, int_toNat_inj]
    unfold fitAt at hp
    rw [getD_of hi, getD_of his] at hp
    simp only [Bool.or_eq_true, beq_iff_eq] at hp
    rcases hp with hp | hp
    · rw [if_pos hp]
    · rw [if_pos hp]
      split <;> rfl
  · intro i hi hp
    refine Ev.step (f := fun _ => some false) (fun k => ?_) (Ev.now _)
    have his : i < s.length := by omega
    simp only [impl_meets.l0]
    rw [if_pos (Int.ofNat_lt.2 hi), if_pos (Int.natCast_nonneg _), tx_size, if_pos (Int.ofNat_lt.2 hi), bt_tx hi, bt_tx his, tx_size, if_pos (Int.ofNat_lt.2 his)]
    simp only [is63, int_toNat_inj]
    unfold fitAt at hp
    rw [getD_of hi, getD_of his] at hp
    simp only [Bool.or_eq_false_iff, beq_eq_false_iff_ne] at hp
    rw [if_neg hp.1, if_neg hp.2]
  · refine Ev.step (f := fun _ => some true) (fun k => ?_) (Ev.now _)
    simp only [impl_meets.l0]
    rw [if_neg (Int.lt_irrefl _)]
/-! ### Moves -/
def mvK (ks : List Stt) (s : Stt) (i : Nat) : List Nat := (List.range i).filter (fun k => fits (ks.getD k []) s)
theorem mvK_succ (ks : List Stt) (s : Stt) (i : Nat) : mvK ks s (i + 1) = if fits (ks.getD i []) s = true then mvK ks s i ++ [i] else mvK ks s i := by
  unfold mvK
  rw [List.range_succ, List.filter_append]
  by_cases h : fits (ks.getD i []) s = true
  · rw [if_pos h, List.filter_cons_of_pos (p := fun k => fits (ks.getD k []) s) h, List.filter_nil]
  · rw [if_neg h, List.filter_cons_of_neg (p := fun k => fits (ks.getD k []) s) h, List.filter_nil, List.append_nil]
theorem mvK_len (ks : List Stt) (s : Stt) (i : Nat) : (mvK ks s i).length ≤ i := by
  unfold mvK
  exact Nat.le_trans (List.length_filter_le _ _) (by simp)
theorem keMoves {ks : List Stt} {s : Stt} (hk : keysOk ks = true) (hs : okN ks.length s) : Ev (fun k => spec_keMoves.f k (ks.map tx) (tx s)) (ints (mvK ks s ks.length)) := by
  obtain ⟨⟨k1, k2⟩, k3⟩ := keys_parts hk
  have key : ∀ d i, i + d = ks.length → Ev (fun k => spec_keMoves.l0 k (tx s) (ints (mvK ks s i)) (ks.map tx) (ks.length : Int) (i : Int)) (ints (mvK ks s ks.length)) := by
    intro d
    induction d with
    | zero =>
      intro i hi
      obtain rfl : i = ks.length := by omega
      refine Ev.step (f := fun _ => some (ints (mvK ks s ks.length))) (fun k => ?_) (Ev.now _)
      simp only [spec_keMoves.l0]
      rw [if_neg (Int.lt_irrefl _)]
    | succ d ih =>
      intro i hi
      have hil : i < ks.length := by omega
      obtain ⟨a1, a2, a3⟩ := k3 i hil
      have hf := keFits ks[i] s a3 (by rw [a1, hs.1]) (by omega)
      have hlen := mvK_len ks s i
      have hsucc := mvK_succ ks s i
      rw [getD_get hil] at hsucc
      refine ev_num hf (ih (i + 1) (by omega)) (fun k hk => ?_)
      simp only [spec_keMoves.l0]
      rw [if_pos (Int.ofNat_lt.2 hil), if_pos (Int.natCast_nonneg _), if_pos (show (i : Int) < ((ks.map tx).length : Int) by rw [List.length_map]; exact Int.ofNat_lt.2 hil), rdK hil, hk, obind, hsucc, succ64 (by omega)]
      by_cases c : fits ks[i] s = true
      · rw [if_pos c, if_pos c, if_pos (by unfold ints; rw [List.length_map]; omega)]
        unfold ints
        rw [List.map_append]
        rfl
      · rw [if_neg c, if_neg c]
  have h := key ks.length 0 (Nat.zero_add _)
  unfold spec_keMoves.f
  rw [List.length_map]
  exact h
theorem keyedMoves {ks : List Stt} {s : Stt} (hk : keysOk ks = true) (hs : okN ks.length s) : Ev (fun k => impl_keyedMoves.f k (ks.map tx) (tx s)) (ints (mvK ks s ks.length)) := by
  obtain ⟨⟨k1, k2⟩, k3⟩ := keys_parts hk
  have key : ∀ d i, i + d = ks.length → Ev (fun k => impl_keyedMoves.l0 k (tx s) (ints (mvK ks s i)) (ks.map tx) (ks.length : Int) (i : Int)) (ints (mvK ks s ks.length)) := by
    intro d
    induction d with
    | zero =>
      intro i hi
      obtain rfl : i = ks.length := by omega
      refine Ev.step (f := fun _ => some (ints (mvK ks s ks.length))) (fun k => ?_) (Ev.now _)
      simp only [impl_keyedMoves.l0]
      rw [if_neg (Int.lt_irrefl _)]
    | succ d ih =>
      intro i hi
      have hil : i < ks.length := by omega
      obtain ⟨a1, a2, a3⟩ := k3 i hil
      have hf := meets ks[i] s (by rw [a1, hs.1]) (by omega)
      have hlen := mvK_len ks s i
      have hsucc := mvK_succ ks s i
      rw [getD_get hil] at hsucc
      refine ev_num hf (ih (i + 1) (by omega)) (fun k hk => ?_)
      simp only [impl_keyedMoves.l0]
      rw [if_pos (Int.ofNat_lt.2 hil), if_pos (Int.natCast_nonneg _), if_pos (show (i : Int) < ((ks.map tx).length : Int) by rw [List.length_map]; exact Int.ofNat_lt.2 hil), rdK hil, hk, obind, hsucc, succ64 (by omega)]
      by_cases c : fits ks[i] s = true
      · rw [if_pos c, if_pos c, if_pos (by unfold ints; rw [List.length_map]; omega)]
        unfold ints
        rw [List.map_append]
        rfl
      · rw [if_neg c, if_neg c]
  have h := key ks.length 0 (Nat.zero_add _)
  unfold impl_keyedMoves.f
  rw [List.length_map]
  exact h

end Go.Proofs.YtnmepnpjjnonmaaDoor.Lem
