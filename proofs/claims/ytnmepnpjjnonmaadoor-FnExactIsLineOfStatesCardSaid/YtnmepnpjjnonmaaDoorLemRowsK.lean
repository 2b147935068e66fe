/-
  The program's rows of links and its search over them.
-/
import Derived.Test.YtnmepnpjjnonmaaDoorLemTsK
import Derived.Test.YtnmepnpjjnonmaaDoorPKx8
namespace Go.Proofs.YtnmepnpjjnonmaaDoor.Lem
open Go.RowKit Go.Proofs.YtnmepnpjjnonmaaDoor.PK Go.Proofs.YtnmepnpjjnonmaaDoorW.PrintWords Go.Proofs.YtnmepnpjjnonmaaDoorW.PrintLast Go.Proofs.YtnmepnpjjnonmaaDoorW.PrintMore Go.Proofs.YtnmepnpjjnonmaaDoor.Ring Go.Proofs.YtnmepnpjjnonmaaDoor.Bfs
set_option linter.unusedVariables false
set_option linter.unusedSimpArgs false

/-- A state's number, the ring k being worth 2 to the power k. -/
def bv : Stt → Nat
  | [] => 0
  | c :: l => (if c = 49 then 1 else 0) + 2 * bv l
theorem bv_lt : ∀ s : Stt, bv s < 2 ^ s.length
  | [] => Nat.one_pos
  | c :: l => by
    have := bv_lt l
    rw [bv, List.length_cons, Nat.pow_succ]
    split <;> omega
theorem bvN_lt {n : Nat} {s : Stt} (hs : okN n s) : bv s < 2 ^ n := by
  have := bv_lt s
  rwa [hs.1] at this
theorem bits_eq {n : Nat} {s : Stt} (hs : okN n s) (hn : n ≤ 10) : Ev (fun k => impl_bits.f k (tx s)) ((bv s : Nat) : Int) := by
  obtain ⟨h1, h2⟩ := hs
  have go : ∀ j : Nat, j ≤ n → Ev (fun k => impl_bits.l0 k (tx s) ((bv (s.drop j) : Nat) : Int) ((j : Int) - 1)) ((bv s : Nat) : Int) := by
    intro j
    induction j with
    | zero =>
      intro _
      refine Ev.step (f := fun _ => some ((bv s : Nat) : Int)) (fun k => ?_) (Ev.now _)
      simp only [impl_bits.l0]
      rw [if_neg (by omega)]
      rfl
    | succ j ih =>
      intro hj
      have hjl : j < s.length := by omega
      have hb := bv_lt (s.drop (j + 1))
      have hple : (2 : Nat) ^ (s.drop (j + 1)).length ≤ 2 ^ 10 := Nat.pow_le_pow_right (by decide) (by rw [List.length_drop]; omega)
      have h1024 : (2 : Nat) ^ 10 = 1024 := by decide
      have hc := okc_or (List.all_eq_true.1 h2 _ (List.getElem_mem hjl))
      obtain ⟨d, hd, he, hd2⟩ : ∃ d : Nat, d ≤ 1 ∧ ((s[j].toNat : Int) - 48) % 256 = (d : Int) ∧ bv (s.drop j) = 2 * bv (s.drop (j + 1)) + d := by
        rw [List.drop_eq_getElem_cons hjl, bv]
        rcases hc with h | h
        · exact ⟨0, by decide, by rw [h]; decide, by rw [h, if_neg (by decide)]; omega⟩
        · exact ⟨1, by decide, by rw [h]; decide, by rw [h, if_pos rfl]; omega⟩
      have e := ih (by omega)
      rw [hd2] at e
      refine Ev.step (fun k => ?_) e
      generalize bv (s.drop (j + 1)) = v at *
      have e0 : ((j + 1 : Nat) : Int) - 1 = (j : Int) := by omega
      have e1 : wrap64 (2 * (v : Int)) = ((2 * v : Nat) : Int) := by rw [w64 (by omega) (by omega)]; omega
      have e2 : wrap64 (((2 * v : Nat) : Int) + (d : Int)) = ((2 * v + d : Nat) : Int) := by rw [w64 (by omega) (by omega)]; omega
      have e3 : wrap64 ((j : Int) - 1) = (j : Int) - 1 := w64 (by omega) (by omega)
      simp only [impl_bits.l0]
      rw [e0, if_pos (show (j : Int) ≥ 0 from Int.natCast_nonneg j), if_pos (Int.natCast_nonneg j), tx_size, if_pos (Int.ofNat_lt.2 hjl), bt_tx hjl, he, e1, e2, e3]
  have e := go n (Nat.le_refl _)
  have e3 : wrap64 ((n : Int) - 1) = (n : Int) - 1 := w64 (by omega) (by omega)
  have e4 : s.drop n = [] := List.drop_of_length_le (by omega)
  rw [e4] at e
  unfold impl_bits.f
  rw [tx_size, h1, e3]
  exact e
theorem bv_inj : ∀ {s t : Stt}, s.all okc = true → t.all okc = true → s.length = t.length → bv s = bv t → s = t
  | [], [], _, _, _, _ => rfl
  | [], _ :: _, _, _, h, _ => by simp at h
  | _ :: _, [], _, _, h, _ => by simp at h
  | a :: s, b :: t, hs, ht, hl, h => by
    rw [List.all_cons, Bool.and_eq_true] at hs ht
    rw [bv, bv] at h
    have hb : bv s = bv t := by split at h <;> split at h <;> omega
    have e := bv_inj hs.2 ht.2 (by simpa using hl) hb
    have ea := okc_or hs.1
    have eb := okc_or ht.1
    rw [hb] at h
    rcases ea with ea | ea <;> rcases eb with eb | eb
    · rw [ea, eb, e]
    · rw [ea, eb, if_neg (by decide), if_pos rfl] at h; omega
    · rw [ea, eb, if_pos rfl, if_neg (by decide)] at h; omega
    · rw [ea, eb, e]
theorem bvN_inj {n : Nat} {s t : Stt} (hs : okN n s) (ht : okN n t) (e : bv s = bv t) : s = t := bv_inj hs.2 ht.2 (by rw [hs.1, ht.1]) e
theorem bv_sur : ∀ (n b : Nat), b < 2 ^ n → ∃ s, okN n s ∧ bv s = b
  | 0, b, h => ⟨[], ⟨rfl, rfl⟩, by simp [bv]; omega⟩
  | n + 1, b, h => by
    obtain ⟨s, ⟨h1, h2⟩, h3⟩ := bv_sur n (b / 2) (by rw [Nat.pow_succ] at h; omega)
    by_cases hb : b % 2 = 1
    · exact ⟨49 :: s, ⟨by rw [List.length_cons, h1], by rw [List.all_cons, h2]; rfl⟩, by rw [bv, if_pos rfl, h3]; omega⟩
    · exact ⟨48 :: s, ⟨by rw [List.length_cons, h1], by rw [List.all_cons, h2]; rfl⟩, by rw [bv, if_neg (by decide), h3]; omega⟩
def fl (b k : Nat) : Nat := if b / 2 ^ k % 2 = 0 then b + 2 ^ k else b - 2 ^ k
theorem bv_flip : ∀ (s : Stt) (k : Nat), k < s.length → s.all okc = true → bv (flipAt s k) = fl (bv s) k
  | [], k, h, _ => absurd h (Nat.not_lt_zero k)
  | c :: l, 0, _, ho => by
    rw [List.all_cons, Bool.and_eq_true] at ho
    have e : flipAt (c :: l) 0 = flipC c :: l := rfl
    rw [e, bv, bv]
    unfold fl flipC
    rw [Nat.pow_zero, Nat.div_one]
    rcases okc_or ho.1 with h | h
    · subst h
      have a1 : (if (48 : UInt8) = 49 then (48 : UInt8) else 49) = 49 := rfl
      have a2 : (if (48 : UInt8) = 49 then 1 else 0) = 0 := rfl
      rw [a1, if_pos rfl, a2, if_pos (by omega)]
      omega
    · subst h
      have a1 : (if (49 : UInt8) = 49 then (48 : UInt8) else 49) = 48 := rfl
      have a2 : (if (49 : UInt8) = 49 then 1 else 0) = 1 := rfl
      have a3 : (if (48 : UInt8) = 49 then 1 else 0) = 0 := rfl
      rw [a1, a2, a3, if_neg (by omega)]
      omega
  | c :: l, k + 1, hk, ho => by
    rw [List.all_cons, Bool.and_eq_true] at ho
    have e : flipAt (c :: l) (k + 1) = c :: flipAt l k := rfl
    have ih := bv_flip l k (by simpa using hk) ho.2
    rw [e, bv, bv, ih]
    obtain ⟨d, hd, h⟩ : ∃ d : Nat, d ≤ 1 ∧ (if c = 49 then 1 else 0) = d := by
      split
      · exact ⟨1, by omega, rfl⟩
      · exact ⟨0, by omega, rfl⟩
    rw [h]
    unfold fl
    have e2 : (d + 2 * bv l) / 2 ^ (k + 1) = bv l / 2 ^ k := by
      rw [Nat.pow_succ, Nat.mul_comm (2 ^ k) 2, ← Nat.div_div_eq_div_mul]
      congr 1
      omega
    rw [e2]
    by_cases h0 : bv l / 2 ^ k % 2 = 0
    · rw [if_pos h0, if_pos h0, Nat.pow_succ]; omega
    · rw [if_neg h0, if_neg h0, Nat.pow_succ]
      have hle : 2 ^ k ≤ bv l := by
        apply Decidable.byContradiction
        intro hn
        exact h0 (by rw [Nat.div_eq_of_lt (by omega)])
      omega
theorem bits_xor (a b : Nat) (ha : a < 2 ^ 62) (hb : b < 2 ^ 62) : Go.bits .xor .i64 (a : Int) (b : Int) = ((a ^^^ b : Nat) : Int) := by
  have hp : (2 : Nat) ^ 62 ≤ 2 ^ IntKind.i64.bits := Nat.pow_le_pow_right (by decide) (by decide)
  have ha' : a % 2 ^ IntKind.i64.bits = a := Nat.mod_eq_of_lt (Nat.lt_of_lt_of_le ha hp)
  have hb' : b % 2 ^ IntKind.i64.bits = b := Nat.mod_eq_of_lt (Nat.lt_of_lt_of_le hb hp)
  have hx := Nat.xor_lt_two_pow ha hb
  have h62 : (2 : Nat) ^ 62 = 4611686018427387904 := rfl
  simp only [Go.bits, BitVec.ofInt_natCast, BitVec.toNat_xor, BitVec.toNat_ofNat, ha', hb']
  exact wrap_i64 (by omega) (by omega)
theorem xor_nat : ∀ b : Fin 1024, ∀ k : Fin 10, b.val ^^^ 2 ^ k.val = fl b.val k.val := by decide +kernel
theorem xor_fin (b k : Nat) (hb : b < 1024) (hk : k < 10) : Go.bits .xor .i64 (b : Int) ((2 ^ k : Nat) : Int) = ((fl b k : Nat) : Int) := by
  have h2 : (2 : Nat) ^ k ≤ 2 ^ 10 := Nat.pow_le_pow_right (by decide) (by omega)
  have h1024 : (2 : Nat) ^ 10 = 1024 := rfl
  have h62 : (2 : Nat) ^ 62 = 4611686018427387904 := rfl
  rw [bits_xor b (2 ^ k) (by omega) (by omega), xor_nat ⟨b, hb⟩ ⟨k, hk⟩]
def bi (s : Stt) : Int := ((bv s : Nat) : Int)
def lkR (ks : List Stt) (s : Stt) : List Int := (stepK ks s).map bi
theorem lkR_len (ks : List Stt) (s : Stt) : (lkR ks s).length = (mvK ks s ks.length).length := by unfold lkR; rw [List.length_map, step_lenK]
theorem setget {α : Type} (l : List (List α)) (b : Nat) (X : List α) (h : b < l.length) : (l.set b X).getD b [] = X := by
  rw [List.getD_eq_getElem?_getD, List.getElem?_set_self h]
  rfl
theorem setother {α : Type} (l : List (List α)) (b c : Nat) (X : List α) (h : b ≠ c) : (l.set b X).getD c [] = l.getD c [] := by
  rw [List.getD_eq_getElem?_getD, List.getElem?_set_ne h, ← List.getD_eq_getElem?_getD]
theorem setself {α : Type} (l : List (List α)) (b : Nat) (h : b < l.length) (e : l.getD b [] = []) : l.set b [] = l := by
  apply List.ext_getElem?
  intro i
  by_cases hi : b = i
  · subst hi
    rw [List.getElem?_set_self h]
    rw [List.getD_eq_getElem?_getD, List.getElem?_eq_getElem h] at e
    rw [List.getElem?_eq_getElem h]
    exact congrArg some e.symm
  · rw [List.getElem?_set_ne hi]
theorem rows_l1 {ks : List Stt} (hk : keysOk ks = true) (L : List ByteArray) (x15 x16 : Int) (s : Stt) (hs : okN ks.length s) (rows : List (List Int)) (hl : rows.length = 2 ^ ks.length) (R : List (List Int))
    (H : Ev (fun k => impl_keyedLinks.l0 k (ks.map tx) (rows.set (bv s) (lkR ks s)) L x15 (wrap64 (x16 + 1))) R) : ∀ d j, j + d = (mvK ks s ks.length).length →
    Ev (fun k => impl_keyedLinks.l1 k (ks.map tx) (rows.set (bv s) ((lkR ks s).take j)) (tx s) L x15 x16 (ints (mvK ks s ks.length)) ((ints (mvK ks s ks.length)).length : Int) (j : Int)) R := by
  obtain ⟨⟨k1, k2⟩, k3⟩ := keys_parts hk
  have eb := bits_eq hs k2
  have hb := bvN_lt hs
  have hp := pow10 k2
  have hbr : bv s < rows.length := by rw [hl]; exact hb
  intro d
  induction d with
  | zero =>
    intro j hj
    obtain rfl : j = (mvK ks s ks.length).length := by omega
    rw [← lkR_len, List.take_length]
    refine Ev.step (fun k => ?_) H
    simp only [impl_keyedLinks.l1]
    rw [ints_len, lkR_len, if_neg (Int.lt_irrefl _)]
  | succ d ih =>
    intro j hj
    have hjl : j < (mvK ks s ks.length).length := by omega
    have hml := mvK_len ks s ks.length
    have hmm := mvK_lt (List.getElem_mem hjl)
    have hjr : j < (lkR ks s).length := by rw [lkR_len]; exact hjl
    have hjs : j < (stepK ks s).length := by rw [step_lenK]; exact hjl
    have hx : Go.bits .xor .i64 ((bv s : Nat) : Int) (shl .i64 1 (((mvK ks s ks.length)[j] : Nat) : Int)) = (lkR ks s)[j] := by
      rw [shl_one _ (by omega)]
      have h1 := xor_fin (bv s) (mvK ks s ks.length)[j] (by omega) (by omega)
      have h2 : (lkR ks s)[j] = bi ((stepK ks s)[j]) := List.getElem_map _
      rw [h2, stepK_get hjl hjs]
      unfold bi
      rw [bv_flip _ _ (by rw [hs.1]; exact hmm.1) hs.2]
      exact h1
    have h := ih (j + 1) (by omega)
    rw [List.take_succ_eq_append_getElem hjr] at h
    refine ev_num eb h (fun k hk' => ?_)
    have hk2 : impl_bits.f k (tx s) = some ((bv s : Nat) : Int) := hk'
    have c1 : (j : Int) < ((ints (mvK ks s ks.length)).length : Int) := by rw [ints_len]; exact Int.ofNat_lt.2 hjl
    have c2 : ((bv s : Nat) : Int) < ((rows.set (bv s) ((lkR ks s).take j)).length : Int) := by rw [List.length_set]; exact Int.ofNat_lt.2 hbr
    have e2 : rd_L3 (rows.set (bv s) ((lkR ks s).take j)) ((bv s : Nat) : Int) = (lkR ks s).take j := setget rows (bv s) _ hbr
    have c3 : ((lkR ks s).take j).length < 17592186044416 := by rw [List.length_take]; omega
    simp only [impl_keyedLinks.l1]
    rw [if_pos c1, if_pos (Int.natCast_nonneg _), if_pos c1, hk2, obind, obind, if_pos (Int.natCast_nonneg _), if_pos c2, obind, rd_ints hjl, if_pos (Int.natCast_nonneg _), e2, if_pos c3, Int.toNat_natCast, hx, List.set_set, succ64 (by omega)]
/-- The rows behind a part of the states. -/
def rwK (ks : List Stt) (l : List Stt) : List (List Int) := l.foldl (fun rows s => rows.set (bv s) (lkR ks s)) (List.replicate (2 ^ ks.length) [])
theorem rw_snoc (ks l : List Stt) (s : Stt) : rwK ks (l ++ [s]) = (rwK ks l).set (bv s) (lkR ks s) := by unfold rwK; rw [List.foldl_append]; rfl
theorem rw_len (ks : List Stt) : ∀ (l : List Stt) (r : List (List Int)), (l.foldl (fun rows s => rows.set (bv s) (lkR ks s)) r).length = r.length
  | [], r => rfl
  | s :: l, r => by rw [List.foldl_cons, rw_len ks l, List.length_set]
theorem rwK_len (ks l : List Stt) : (rwK ks l).length = 2 ^ ks.length := by unfold rwK; rw [rw_len, List.length_replicate]
theorem rw_get {n : Nat} (ks : List Stt) {s : Stt} (hs : okN n s) : ∀ (l : List Stt) (r : List (List Int)), (∀ t ∈ l, okN n t) → bv s < r.length → (l.foldl (fun rows t => rows.set (bv t) (lkR ks t)) r).getD (bv s) [] = if s ∈ l then lkR ks s else r.getD (bv s) []
  | [], r, _, _ => by simp
  | t :: l, r, hl, hr => by
    rw [List.foldl_cons, rw_get ks hs l _ (fun x hx => hl x (List.mem_cons_of_mem _ hx)) (by rw [List.length_set]; exact hr)]
    by_cases h1 : s ∈ l
    · rw [if_pos h1, if_pos (List.mem_cons_of_mem _ h1)]
    · rw [if_neg h1]
      by_cases h2 : s = t
      · subst h2
        rw [if_pos List.mem_cons_self, setget _ _ _ hr]
      · rw [if_neg (fun h => by rcases List.mem_cons.1 h with h | h; exact h2 h; exact h1 h), setother _ _ _ _ (fun e => h2 (bvN_inj hs (hl t List.mem_cons_self) e.symm))]
theorem rwK_get {ks : List Stt} {s : Stt} (hs : okN ks.length s) (l : List Stt) (hl : ∀ t ∈ l, okN ks.length t) : (rwK ks l).getD (bv s) [] = if s ∈ l then lkR ks s else [] := by
  have hb := bvN_lt hs
  unfold rwK
  rw [rw_get ks hs l _ hl (by rw [List.length_replicate]; exact hb)]
  congr 1
  rw [List.getD_eq_getElem?_getD, List.getElem?_replicate, if_pos hb]
  rfl
theorem rows {ks : List Stt} (hk : keysOk ks = true) : Ev (fun k => impl_keyedLinks.f k (ks.map tx)) (rwK ks (tsK ks.length)) := by
  obtain ⟨⟨k1, k2⟩, k3⟩ := keys_parts hk
  have hp := pow10 k2
  have hlen := tsK_length ks.length
  have lL : ((tsK ks.length).map tx).length = (tsK ks.length).length := List.length_map _
  have go : ∀ d i, i + d = (tsK ks.length).length → Ev (fun k => impl_keyedLinks.l0 k (ks.map tx) (rwK ks ((tsK ks.length).take i)) ((tsK ks.length).map tx) (((tsK ks.length).map tx).length : Int) (i : Int)) (rwK ks (tsK ks.length)) := by
    intro d
    induction d with
    | zero =>
      intro i hi
      obtain rfl : i = (tsK ks.length).length := by omega
      rw [List.take_length]
      refine Ev.step (f := fun _ => some (rwK ks (tsK ks.length))) (fun k => ?_) (Ev.now _)
      simp only [impl_keyedLinks.l0]
      rw [lL, if_neg (Int.lt_irrefl _)]
    | succ d ih =>
      intro i hi
      have hil : i < (tsK ks.length).length := by omega
      have hs := tsK_ok ks.length _ (List.getElem_mem hil)
      have hm := keyedMoves hk hs
      have c1 : (i : Int) < (((tsK ks.length).map tx).length : Int) := by rw [lL]; exact Int.ofNat_lt.2 hil
      have hnot : ¬ (tsK ks.length)[i] ∈ (tsK ks.length).take i := by
        intro h
        obtain ⟨j, hj, e⟩ := List.getElem_of_mem h
        rw [List.length_take] at hj
        rw [List.getElem_take] at e
        have h9 := List.pairwise_iff_getElem.1 (tsK_nodup ks.length) j i (by omega) hil (by omega)
        exact h9 e
      have hg := rwK_get hs ((tsK ks.length).take i) (fun t ht => tsK_ok _ _ (List.mem_of_mem_take ht))
      rw [if_neg hnot] at hg
      have hrl := rwK_len ks ((tsK ks.length).take i)
      have h := rows_l1 hk ((tsK ks.length).map tx) (((tsK ks.length).map tx).length : Int) (i : Int) (tsK ks.length)[i] hs (rwK ks ((tsK ks.length).take i)) hrl (rwK ks (tsK ks.length)) (by
        have e := ih (i + 1) (by omega)
        rw [List.take_succ_eq_append_getElem hil, rw_snoc] at e
        rw [succ64 (by omega)]
        exact e) (mvK ks (tsK ks.length)[i] ks.length).length 0 (Nat.zero_add _)
      rw [List.take_zero, setself _ _ (by rw [hrl]; exact bvN_lt hs) hg] at h
      refine ev_num hm h (fun k hk' => ?_)
      have hk2 : impl_keyedMoves.f k (ks.map tx) (tx (tsK ks.length)[i]) = some (ints (mvK ks (tsK ks.length)[i] ks.length)) := hk'
      simp only [impl_keyedLinks.l0]
      rw [if_pos c1, if_pos (Int.natCast_nonneg _), if_pos c1, rdK hil, hk2, obind]
      rfl
  have h := go (tsK ks.length).length 0 (Nat.zero_add _)
  unfold impl_keyedLinks.f
  rw [List.length_map, shl_one ks.length (by omega)]
  exact Ev.congr (fun k => by rw [if_pos (Int.natCast_nonneg _), Int.toNat_natCast, if_pos (by omega)]) (Ev.bind (textStates ks.length k2) h)
end Go.Proofs.YtnmepnpjjnonmaaDoor.Lem
