/-
  The states of so many rings in the order of texts: what the program makes, all of them, each once.
-/
import Derived.Test.YtnmepnpjjnonmaaDoorLemKeFarPK
import Derived.Test.YtnmepnpjjnonmaaDoorPair
namespace Go.Proofs.YtnmepnpjjnonmaaDoor.Lem
open Go.RowKit Go.Proofs.YtnmepnpjjnonmaaDoor.PK Go.Proofs.YtnmepnpjjnonmaaDoorW.PrintWords Go.Proofs.YtnmepnpjjnonmaaDoorW.PrintLast Go.Proofs.YtnmepnpjjnonmaaDoorW.PrintMore Go.Proofs.YtnmepnpjjnonmaaDoor.Ring Go.Proofs.YtnmepnpjjnonmaaDoor.Bfs
set_option linter.unusedVariables false
set_option linter.unusedSimpArgs false

theorem okc_or {c : UInt8} (h : okc c = true) : c = 48 ∨ c = 49 := by
  simpa [okc] using h
def flK (l : List Stt) : List Stt := l.flatMap (fun s => [s ++ [48], s ++ [49]])
theorem flK_len : ∀ l : List Stt, (flK l).length = 2 * l.length
  | [] => rfl
  | a :: l => by
    have := flK_len l
    unfold flK at this ⊢
    rw [List.flatMap_cons, List.length_append, this, List.length_cons]
    simp
    omega
theorem textStates_l1 (cur : List Stt) (hc : cur.length ≤ 1024) (hs : ∀ s ∈ cur, s.length ≤ 10) (x8 x9 : Int) (R : List ByteArray)
    (H : Ev (fun k => impl_textStates.l0 k ((flK cur).map tx) x8 (wrap64 (x9 + 1))) R) : ∀ d i, i + d = cur.length →
    Ev (fun k => impl_textStates.l1 k ((flK (cur.take i)).map tx) x8 x9 (cur.map tx) ((cur.map tx).length : Int) (i : Int)) R := by
  intro d
  induction d with
  | zero =>
    intro i hi
    obtain rfl : i = cur.length := by omega
    rw [List.take_length]
    refine Ev.step (fun k => ?_) H
    simp only [impl_textStates.l1]
    rw [List.length_map, if_neg (Int.lt_irrefl _)]
  | succ d ih =>
    intro i hi
    have hil : i < cur.length := by omega
    have hil2 : i < (cur.map tx).length := by rw [List.length_map]; exact hil
    have h10 := hs _ (List.getElem_mem hil)
    have hfl := flK_len (cur.take i)
    rw [List.length_take] at hfl
    have e1 : (flK (cur.take (i + 1))).map tx = (flK (cur.take i)).map tx ++ [tx cur[i] ++ (⟨#[48]⟩ : ByteArray), tx cur[i] ++ (⟨#[49]⟩ : ByteArray)] := by
      have a1 : tx cur[i] ++ (⟨#[48]⟩ : ByteArray) = tx (cur[i] ++ [48]) := app_tx _ [48]
      have a2 : tx cur[i] ++ (⟨#[49]⟩ : ByteArray) = tx (cur[i] ++ [49]) := app_tx _ [49]
      rw [a1, a2, List.take_succ_eq_append_getElem hil]
      unfold flK
      rw [List.flatMap_append, List.map_append]
      rfl
    have h := ih (i + 1) (by omega)
    rw [e1] at h
    refine Ev.step (fun k => ?_) h
    simp only [impl_textStates.l1]
    rw [if_pos (Int.ofNat_lt.2 hil2), if_pos (Int.natCast_nonneg _), if_pos (Int.ofNat_lt.2 hil2), rdK hil, if_pos (show (tx cur[i]).size + 1 ≤ 9223372036854775807 by rw [tx_size]; omega), obind,
      if_pos (show ((flK (cur.take i)).map tx).length + ([tx cur[i] ++ (⟨#[48]⟩ : ByteArray), tx cur[i] ++ (⟨#[49]⟩ : ByteArray)] : List ByteArray).length < 8796093022208 by rw [List.length_map]; simp only [List.length_cons, List.length_nil]; omega), succ64 (by omega)]
theorem textStates (n : Nat) (hn : n ≤ 10) : Ev (fun k => impl_textStates.f k (n : Int)) ((tsK n).map tx) := by
  have go : ∀ d m, m + d = n → Ev (fun k => impl_textStates.l0 k ((tsK m).map tx) (n : Int) (m : Int)) ((tsK n).map tx) := by
    intro d
    induction d with
    | zero =>
      intro m hm
      obtain rfl : m = n := by omega
      refine Ev.step (f := fun _ => some ((tsK m).map tx)) (fun k => ?_) (Ev.now _)
      simp only [impl_textStates.l0]
      rw [if_neg (Int.lt_irrefl _)]
    | succ d ih =>
      intro m hm
      have hl := tsK_length m
      have h10 : (2 : Nat) ^ m ≤ 2 ^ 10 := Nat.pow_le_pow_right (by decide) (by omega)
      have h1024 : (2 : Nat) ^ 10 = 1024 := by decide
      have h := textStates_l1 (tsK m) (by omega) (fun s h => by rw [(tsK_ok m s h).1]; omega) (n : Int) (m : Int) ((tsK n).map tx) (by
        rw [succ64 (by omega)]
        exact ih (m + 1) (by omega)) (tsK m).length 0 (Nat.zero_add _)
      refine Ev.step (fun k => ?_) h
      simp only [impl_textStates.l0]
      rw [if_pos (Int.ofNat_lt.2 (show m < n by omega))]
      rfl
  unfold impl_textStates.f
  exact go n 0 (Nat.zero_add _)
theorem tsK_mem : ∀ (n : Nat) (s : Stt), okN n s → s ∈ tsK n
  | 0, s, ⟨h1, _⟩ => by rw [List.length_eq_zero_iff.1 h1]; simp [tsK]
  | n + 1, s, ⟨h1, h2⟩ => by
    have hn : n < s.length := by omega
    have e : s = s.take n ++ [s[n]] := by rw [← List.take_succ_eq_append_getElem hn, List.take_of_length_le (by omega)]
    have hc := okc_or (List.all_eq_true.1 h2 _ (List.getElem_mem hn))
    have hm := tsK_mem n (s.take n) ⟨by rw [List.length_take]; omega, List.all_eq_true.2 (fun x hx => List.all_eq_true.1 h2 x (List.mem_of_mem_take hx))⟩
    rw [e, tsK, List.mem_flatMap]
    refine ⟨s.take n, hm, ?_⟩
    rcases hc with h | h
    · rw [h]; simp
    · rw [h]; simp
theorem tsK_nodup : ∀ n, (tsK n).Nodup
  | 0 => by simp [tsK]
  | n + 1 => by
    unfold List.Nodup
    rw [tsK, List.pairwise_flatMap]
    refine ⟨fun a _ => ?_, ?_⟩
    · simp
    · refine List.Pairwise.imp (fun {a b} hab x hx y hy e => hab ?_) (tsK_nodup n)
      simp only [List.mem_cons, List.not_mem_nil, or_false] at hx hy
      rcases hx with rfl | rfl <;> rcases hy with rfl | rfl <;> exact (List.append_inj' e rfl).1
end Go.Proofs.YtnmepnpjjnonmaaDoor.Lem
