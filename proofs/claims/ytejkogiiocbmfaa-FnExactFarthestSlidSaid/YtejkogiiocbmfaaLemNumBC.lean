/-
  The state with a number, and the order of states.
-/
import Derived.Test.YtejkogiiocbmfaaLemBoFarC
import Derived.Test.YtejkogiiocbmfaaPCx23
import Derived.Sort.Walk0
namespace Go.Proofs.Ytejkogiiocbmfaa.Lem
open Go.RowKit Go.Proofs.Ytejkogiiocbmfaa.PC Go.Proofs.YtejkogiiocbmfaaW.PrintWords Go.Proofs.YtejkogiiocbmfaaW.PrintLast Go.Proofs.YtejkogiiocbmfaaW.PrintMore Go.Proofs.Ytejkogiiocbmfaa.Bfs
set_option linter.unusedVariables false
set_option linter.unusedSimpArgs false

def stTo (pl : List Int) (n : Nat) : Nat → Stt
  | 0 => []
  | i + 1 => stTo pl (n / (pl.getD i 0).toNat) i ++ [UInt8.ofNat (48 + n % (pl.getD i 0).toNat)]
def stN (pl : List Int) (n : Nat) : Stt := stTo pl n pl.length
theorem tx_append (a b : Stt) : tx a ++ tx b = tx (a ++ b) := by
  apply ba_ext
  rw [ByteArray.data_append, Array.toList_append, tx_data, tx_data, tx_data]
theorem stTo_length (pl : List Int) : ∀ i n, (stTo pl n i).length = i
  | 0, _ => rfl
  | i + 1, n => by
    show (stTo pl _ i ++ [_]).length = i + 1
    rw [List.length_append, stTo_length pl i]
    rfl
theorem dg_app_lt {a b : Stt} {j : Nat} (h : j < a.length) : dg (a ++ b) j = dg a j := by
  unfold dg
  rw [List.getD_eq_getElem?_getD, List.getElem?_append_left h, ← List.getD_eq_getElem?_getD]
theorem dg_last {a : Stt} {m : Nat} (hm : m < 200) : dg (a ++ [UInt8.ofNat (48 + m)]) a.length = (m : Int) := by
  unfold dg
  rw [List.getD_eq_getElem?_getD, List.getElem?_append_right (Nat.le_refl _), Nat.sub_self]
  show ((UInt8.ofNat (48 + m)).toNat : Int) - 48 = m
  have : (UInt8.ofNat (48 + m)).toNat = 48 + m := by rw [UInt8.toNat_ofNat']; omega
  rw [this]
  omega
theorem stTo_dg {pl : List Int} {bl : List Blk} (hg : goodB pl bl = true) : ∀ i n j, i ≤ pl.length → j < i → 0 ≤ dg (stTo pl n i) j ∧ dg (stTo pl n i) j ≤ pl.getD j 0 - 1
  | 0, _, _, _, h => absurd h (Nat.not_lt_zero _)
  | i + 1, n, j, hi, hj => by
    have hl := stTo_length pl i (n / (pl.getD i 0).toNat)
    have hp := pl_at hg (i := i) (by omega)
    show 0 ≤ dg (stTo pl _ i ++ [_]) j ∧ dg (stTo pl _ i ++ [_]) j ≤ _
    by_cases h : j < i
    · rw [dg_app_lt (by omega)]
      exact stTo_dg hg i _ j (by omega) h
    · obtain rfl : j = i := by omega
      have hm := Nat.mod_lt n (show 0 < (pl.getD j 0).toNat by omega)
      have e := dg_last (a := stTo pl (n / (pl.getD j 0).toNat) j) (m := n % (pl.getD j 0).toNat) (by omega)
      rw [hl] at e
      rw [e]
      omega
theorem numTo_congr {pl : List Int} {s t : Stt} : ∀ i, (∀ j, j < i → dg s j = dg t j) → numTo pl s i = numTo pl t i
  | 0, _ => rfl
  | i + 1, h => by
    show numTo pl s i * _ + (dg s i).toNat = numTo pl t i * _ + (dg t i).toNat
    rw [numTo_congr i (fun j hj => h j (by omega)), h i (by omega)]
theorem stTo_num {pl : List Int} {bl : List Blk} (hg : goodB pl bl = true) : ∀ i n, i ≤ pl.length → n < prodTo pl i → numTo pl (stTo pl n i) i = n
  | 0, n, _, h => by
    have : n < 1 := h
    show 0 = n
    omega
  | i + 1, n, hi, h => by
    have hl := stTo_length pl i (n / (pl.getD i 0).toNat)
    have hp := pl_at hg (i := i) (by omega)
    have hm := Nat.mod_lt n (show 0 < (pl.getD i 0).toNat by omega)
    have hd : n / (pl.getD i 0).toNat < prodTo pl i := Nat.div_lt_of_lt_mul (by rw [Nat.mul_comm]; exact h)
    show numTo pl (stTo pl _ i ++ [_]) i * _ + (dg (stTo pl _ i ++ [_]) i).toNat = n
    rw [numTo_congr (t := stTo pl (n / (pl.getD i 0).toNat) i) i (fun j hj => dg_app_lt (by omega)), stTo_num hg i _ (by omega) hd]
    have e := dg_last (a := stTo pl (n / (pl.getD i 0).toNat) i) (m := n % (pl.getD i 0).toNat) (by omega)
    rw [hl] at e
    rw [e, Int.toNat_natCast, Nat.mul_comm]
    exact Nat.div_add_mod n _
theorem stN_ok {pl : List Int} {bl : List Blk} (hg : goodB pl bl = true) {n : Nat} (h : n < prodB pl) : isStB pl (stN pl n) = true ∧ numB pl (stN pl n) = n := by
  refine ⟨?_, stTo_num hg pl.length n (Nat.le_refl _) h⟩
  unfold isStB
  rw [Bool.and_eq_true]
  refine ⟨decide_eq_true (stTo_length pl pl.length n), ?_⟩
  rw [List.all_eq_true]
  intro j hj
  simp [List.mem_range'_1] at hj
  unfold dgIn
  exact decide_eq_true (stTo_dg hg pl.length n j (Nat.le_refl _) hj)
theorem num_str {m : Nat} (h : m < 10) : strOfNums [(48 + (m : Int)) % 256] = tx [UInt8.ofNat (48 + m)] := by
  apply ba_ext
  rw [strOfNums_one (m : Int) (by omega) (by omega), tx_data, Int.toNat_natCast]
theorem state_l0 {pl : List Int} {bl : List Blk} (hg : goodB pl bl = true) : ∀ i n (suf : Stt), i ≤ pl.length → n < prodTo pl i → suf.length + i ≤ 100 → Ev (fun k => spec_boState.l0 k (n : Int) (tx suf) ((i : Int) - 1) pl bl) (tx (stTo pl n i ++ suf)) := by
  obtain ⟨⟨g1, g6⟩, _⟩ := good_parts hg
  intro i
  induction i with
  | zero =>
    intro n suf _ _ _
    refine Ev.step (f := fun _ => some (tx suf)) (fun k => ?_) (Ev.now _)
    simp only [spec_boState.l0]
    rw [if_neg (by decide)]
  | succ i ih =>
    intro n suf hi h hs
    have hil : i < pl.length := by omega
    have hp := pl_at hg (i := i) hil
    obtain ⟨p, hpp⟩ : ∃ p : Nat, pl.getD i 0 = (p : Int) := ⟨(pl.getD i 0).toNat, by omega⟩
    have hp2 : 2 ≤ p ∧ p ≤ 5 := by omega
    have hpt : (pl.getD i 0).toNat = p := by omega
    have hm := Nat.mod_lt n (show 0 < p by omega)
    have hlt := prod_small hg (i + 1) hi
    have hd : n / p < prodTo pl i := by
      have h' : n < prodTo pl i * (pl.getD i 0).toNat := h
      rw [hpt] at h'
      exact Nat.div_lt_of_lt_mul (by rw [Nat.mul_comm]; exact h')
    have hdn : n / p ≤ n := Nat.div_le_self n p
    have ht : Int.tmod (n : Int) (p : Int) = ((n % p : Nat) : Int) := rfl
    have htd : Int.tdiv (n : Int) (p : Int) = ((n / p : Nat) : Int) := rfl
    have e := ih (n / p) ([UInt8.ofNat (48 + n % p)] ++ suf) (by omega) hd (by rw [List.length_append, List.length_singleton]; omega)
    have hst : stTo pl n (i + 1) ++ suf = stTo pl (n / p) i ++ ([UInt8.ofNat (48 + n % p)] ++ suf) := by
      show (stTo pl (n / (pl.getD i 0).toNat) i ++ [UInt8.ofNat (48 + n % (pl.getD i 0).toNat)]) ++ suf = _
      rw [hpt, List.append_assoc]
    have hm10 : n % p < 10 := Nat.lt_of_lt_of_le hm (by omega)
    have hn15 : n ≤ 15625 := Nat.le_trans (Nat.le_of_lt h) hlt
    have hq : n / p ≤ 15625 := Nat.le_trans hdn hn15
    have hn := l1Num ((n % p : Nat) : Int) (Int.natCast_nonneg _) (Int.ofNat_lt.2 hm10)
    rw [num_str (m := n % p) hm10] at hn
    rw [hst]
    have e6 : (((i + 1 : Nat) : Int) - 1) = (i : Int) := by omega
    rw [e6]
    refine ev_num hn e (fun k hk => ?_)
    simp only [spec_boState.l0]
    rw [if_pos (show (i : Int) ≥ 0 from Int.natCast_nonneg _), if_pos (Int.natCast_nonneg _), if_pos (Int.ofNat_lt.2 hil), rdD, hpp, if_neg (by omega), ht, hk, obind, if_pos (by rw [tx_size, tx_size, List.length_singleton]; omega), htd, tx_append, w64 (n := ((n / p : Nat) : Int)) (Int.le_trans (by decide) (Int.natCast_nonneg _)) (Int.le_trans (Int.ofNat_le.2 hq) (by decide)), w64 (n := (i : Int) - 1) (by omega) (by omega)]
theorem boState {pl : List Int} {bl : List Blk} (hg : goodB pl bl = true) {n : Nat} (h : n < prodB pl) : Ev (fun k => spec_boState.f k pl bl (n : Int)) (tx (stN pl n)) := by
  obtain ⟨⟨g1, g6⟩, _⟩ := good_parts hg
  have e := state_l0 hg pl.length n [] (Nat.le_refl _) h (by rw [List.length_nil]; omega)
  rw [List.append_nil] at e
  unfold spec_boState.f
  rw [w64 (n := (pl.length : Int) - 1) (by omega) (by omega)]
  exact e
/-! ### The order -/
theorem lt_keep {pl : List Int} {bl : List Blk} {s t : Stt} (hg : goodB pl bl = true) (hs : isStB pl s = true) (ht : isStB pl t = true) : ∀ d i, i + d = pl.length → numTo pl s i < numTo pl t i → numB pl s < numB pl t
  | 0, i, h, hl => by
    obtain rfl : i = pl.length := by omega
    exact hl
  | d + 1, i, h, hl => by
    have hp := pl_at hg (i := i) (by omega)
    have h1 := (st_parts hs).2 i (by omega)
    have h2 := (st_parts ht).2 i (by omega)
    refine lt_keep hg hs ht d (i + 1) (by omega) ?_
    show numTo pl s i * (pl.getD i 0).toNat + (dg s i).toNat < numTo pl t i * (pl.getD i 0).toNat + (dg t i).toNat
    have h3 : (numTo pl s i + 1) * (pl.getD i 0).toNat ≤ numTo pl t i * (pl.getD i 0).toNat := Nat.mul_le_mul_right _ hl
    rw [Nat.succ_mul] at h3
    omega
theorem less_from {pl : List Int} {bl : List Blk} {s t : Stt} (hg : goodB pl bl = true) (hs : isStB pl s = true) (ht : isStB pl t = true) : ∀ d i, i + d = pl.length → numTo pl s i = numTo pl t i → Op.bytesLess (s.drop i) (t.drop i) = decide (numB pl s < numB pl t)
  | 0, i, h, he => by
    obtain rfl : i = pl.length := by omega
    have l1 := (st_parts hs).1
    have l2 := (st_parts ht).1
    rw [List.drop_eq_nil_of_le (by omega), List.drop_eq_nil_of_le (by omega)]
    have he' : numB pl s = numB pl t := he
    rw [he']
    simp [Op.bytesLess]
  | d + 1, i, h, he => by
    have l1 := (st_parts hs).1
    have l2 := (st_parts ht).1
    have h1 := (st_parts hs).2 i (by omega)
    have h2 := (st_parts ht).2 i (by omega)
    have i1 : i < s.length := by omega
    have i2 : i < t.length := by omega
    have d1 : dg s i = (s[i].toNat : Int) - 48 := by unfold dg; rw [List.getD_eq_getElem?_getD, List.getElem?_eq_getElem i1]; rfl
    have d2 : dg t i = (t[i].toNat : Int) - 48 := by unfold dg; rw [List.getD_eq_getElem?_getD, List.getElem?_eq_getElem i2]; rfl
    rw [List.drop_eq_getElem_cons i1, List.drop_eq_getElem_cons i2, Op.bytesLess]
    by_cases e : dg s i = dg t i
    · have eq : s[i] = t[i] := UInt8.toNat_inj.1 (by omega)
      have hlt : ¬ s[i] < t[i] := by rw [eq]; exact UInt8.lt_irrefl _
      rw [less_from hg hs ht d (i + 1) (by omega) (by show numTo pl s i * _ + _ = numTo pl t i * _ + _; rw [he, e])]
      rw [eq]
      simp [UInt8.lt_irrefl]
    · by_cases hl : dg s i < dg t i
      · have hlt : s[i] < t[i] := UInt8.lt_iff_toNat_lt.2 (by omega)
        have hn : numB pl s < numB pl t := lt_keep hg hs ht d (i + 1) (by omega) (by show numTo pl s i * _ + _ < numTo pl t i * _ + _; rw [he]; omega)
        rw [decide_eq_true hn, decide_eq_true hlt, Bool.true_or]
      · have hlt : ¬ s[i] < t[i] := fun h => by have := UInt8.lt_iff_toNat_lt.1 h; omega
        have hne : s[i] ≠ t[i] := fun h => e (by rw [d1, d2, h])
        have hn : numB pl t < numB pl s := lt_keep hg ht hs d (i + 1) (by omega) (by show numTo pl t i * _ + _ < numTo pl s i * _ + _; rw [he]; omega)
        rw [decide_eq_false (show ¬ numB pl s < numB pl t by omega), decide_eq_false hlt, beq_eq_false_iff_ne.2 hne]
        rfl
theorem less_num {pl : List Int} {bl : List Blk} {s t : Stt} (hg : goodB pl bl = true) (hs : isStB pl s = true) (ht : isStB pl t = true) : Op.bytesLess (tx s).toList (tx t).toList = decide (numB pl s < numB pl t) := by
  have h := less_from hg hs ht pl.length 0 (Nat.zero_add _) rfl
  rw [List.drop_zero, List.drop_zero] at h
  rw [Go.Lib.toList_data, Go.Lib.toList_data, tx_data, tx_data]
  exact h
end Go.Proofs.Ytejkogiiocbmfaa.Lem
