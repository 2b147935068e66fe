/-
  A state with one ring turned, and its number, in both programs.
-/
import Derived.Test.YtnmepnpjjnonmaaDoorLemLinksK
import Derived.Test.YtnmepnpjjnonmaaDoorPair
namespace Go.Proofs.YtnmepnpjjnonmaaDoor.Lem
open Go.RowKit Go.Proofs.YtnmepnpjjnonmaaDoor.PK Go.Proofs.YtnmepnpjjnonmaaDoorW.PrintWords Go.Proofs.YtnmepnpjjnonmaaDoorW.PrintLast Go.Proofs.YtnmepnpjjnonmaaDoorW.PrintMore Go.Proofs.YtnmepnpjjnonmaaDoor.Ring Go.Proofs.YtnmepnpjjnonmaaDoor.Bfs
set_option linter.unusedVariables false
set_option linter.unusedSimpArgs false

theorem isSt_len {l : List UInt8} (h : isSt l = true) : 1 ≤ l.length ∧ l.length ≤ 20 ∧ l.all okc = true := by
  simpa [isSt, and_assoc] using h
theorem num_le {l : List UInt8} (h : l.length ≤ 20) : num l < 1048576 := by
  have := num_lt l
  have : 2 ^ l.length ≤ 2 ^ 20 := Nat.pow_le_pow_right (by decide) h
  have e : 2 ^ 20 = 1048576 := rfl
  omega
theorem riNumber_l0 (s : ByteArray) (hs : s.data.toList.length ≤ 20) : ∀ (j k : Nat), j ≤ s.data.toList.length → j < k →
    spec_riNumber.l0 k s (num (s.data.toList.drop j) : Int) (dig (s.data.toList.drop j) : Int) ((j : Int) - 1) = some (num s.data.toList : Int) := by
  intro j
  induction j with
  | zero =>
    intro k _ hk
    obtain ⟨k, rfl⟩ : ∃ j, k = j + 1 := ⟨k - 1, by omega⟩
    simp only [spec_riNumber.l0]
    rw [if_neg (by omega)]
    rfl
  | succ j ih =>
    intro k hj hk
    obtain ⟨k, rfl⟩ : ∃ j, k = j + 1 := ⟨k - 1, by omega⟩
    have e := size_eq s
    have hlt : j < s.data.toList.length := by omega
    have hb := bt_get hlt
    have hd := List.drop_eq_getElem_cons hlt
    have h1 : num (s.data.toList.drop (j + 1)) < 1048576 := num_le (by rw [List.length_drop]; omega)
    have h2 := dig_lt (s.data.toList.drop (j + 1))
    have h3 := ih k (by omega) (by omega)
    have ei : ((j + 1 : Nat) : Int) - 1 = (j : Int) := by omega
    have ew : wrap64 ((j : Int) - 1) = (j : Int) - 1 := w64 (by omega) (by omega)
    simp only [spec_riNumber.l0]
    rw [ei, if_pos (by omega), if_pos (by omega), if_pos (by omega), hb, ew]
    simp only [is49]
    rw [hd, num, dig] at h3
    by_cases hc : s.data.toList[j] = 49
    · rw [if_pos hc]
      rw [if_pos hc] at h3
      rw [← h3]
      congr 1
      · rw [w64 (n := 2 * _) (by omega) (by omega), w64 (n := 1 - _) (by omega) (by omega), w64 (by omega) (by omega)]; omega
      · rw [w64 (by omega) (by omega)]; omega
    · rw [if_neg hc]
      rw [if_neg hc] at h3
      rw [← h3]
      congr 1
      rw [w64 (n := 2 * _) (by omega) (by omega), w64 (by omega) (by omega)]; omega
theorem riNumber (s : ByteArray) (hs : s.data.toList.length ≤ 20) : Ev (fun k => spec_riNumber.f k s) (num s.data.toList : Int) := by
  refine Ev.of (k := 21) (fun k => spec_riNumber.mono s k) ?_
  have h := riNumber_l0 s hs s.data.toList.length 21 (Nat.le_refl _) (by omega)
  rw [List.drop_length] at h
  unfold spec_riNumber.f
  have e := size_eq s
  rw [w64 (by omega) (by omega), e]
  exact h
theorem flip_parts (l : List UInt8) (k : Nat) (hk : k < l.length) : flipAt l k = l.take k ++ flipC l[k] :: l.drop (k + 1) := by
  unfold flipAt
  exact List.modify_eq_take_cons_drop hk
theorem join3 (l : List UInt8) (k : Nat) (hk : k < l.length) (c : UInt8) (hc : flipC l[k] = c) : (((tx l).extract 0 k ++ (⟨#[c]⟩ : ByteArray)) ++ (tx l).extract (k + 1) l.length) = tx (flipAt l k) := by
  apply ba_ext
  rw [tx_data, flip_parts l k hk, hc, ByteArray.data_append, ByteArray.data_append, Array.toList_append, Array.toList_append, extract_list, extract_list, tx_data, List.drop_zero, List.take_of_length_le (Nat.le_refl _)]
  simp
theorem riMove (l : List UInt8) (h20 : l.length ≤ 20) (ho : l.all okc = true) (k : Nat) (hk : k < l.length) : spec_riMove.f (tx l) (k : Int) = some (tx (flipAt l k)) := by
  have e := tx_size l
  have hb : bt (tx l) (k : Int) = (l[k].toNat : Int) := bt_opt (by rw [tx_data]; exact List.getElem?_eq_getElem hk)
  have hc : okc l[k] = true := List.all_eq_true.1 ho _ (List.getElem_mem _)
  have e1 : ((k : Nat) : Int).toNat = k := rfl
  have e2 : ((k + 1 : Nat) : Int).toNat = k + 1 := rfl
  have hx1 : ((tx l).extract 0 k).size ≤ 20 := by rw [size_eq, extract_list]; simp; omega
  have hx2 : ((tx l).extract (k + 1) l.length).size ≤ 20 := by rw [size_eq, extract_list, tx_data]; simp; omega
  unfold spec_riMove.f
  rw [if_pos (by omega), e, if_pos (by omega), hb]
  simp only [is49]
  have es : wrap64 ((k : Int) + 1) = ((k + 1 : Nat) : Int) := succ64 (by omega)
  rw [es, e1, e2]
  have hs1 : ∀ c : UInt8, ((tx l).extract 0 k ++ (⟨#[c]⟩ : ByteArray)).size = ((tx l).extract 0 k).size + 1 := fun c => by rw [ByteArray.size_append]; rfl
  rcases okc_cases hc with h | h
  · rw [if_neg (by rw [h]; decide), if_pos (by omega), if_pos (by omega), if_pos (by omega), if_pos (by omega), if_pos (by rw [hs1]; omega), join3 l k hk 49 (by rw [h]; decide)]
  · rw [if_pos h, if_pos (by omega), if_pos (by omega), if_pos (by omega), if_pos (by omega), if_pos (by rw [hs1]; omega), join3 l k hk 48 (by rw [h]; decide)]

theorem turned (l : List UInt8) (h20 : l.length ≤ 20) (ho : l.all okc = true) (k : Nat) (hk : k < l.length) : impl_turned.f (tx l) (k : Int) = some (tx (flipAt l k)) := by
  have e := tx_size l
  have hc : okc l[k] = true := List.all_eq_true.1 ho _ (List.getElem_mem _)
  have e1 : ((k : Nat) : Int).toNat = k := rfl
  have eg : l.getD k 0 = l[k] := by rw [List.getD_eq_getElem?_getD, List.getElem?_eq_getElem hk]; rfl
  unfold impl_turned.f
  rw [e1, tx_data, eg, e]
  have h97 : l[k].toNat ≤ 97 := by rcases okc_cases hc with h | h <;> rw [h] <;> decide
  rw [if_pos ⟨by omega, by omega, by omega, h97⟩]
  congr 1
  apply ba_ext
  rw [tx_data]
  apply List.ext_getElem?
  intro j
  show (l.set k (UInt8.ofNat (97 - l[k].toNat)))[j]? = _
  rw [List.getElem?_set, flipAt_get]
  by_cases h : k = j
  · subst h
    rw [if_pos rfl, if_pos rfl, if_pos hk, List.getElem?_eq_getElem hk]
    simp only [Option.map_some, Option.some.injEq]
    rcases okc_cases hc with h | h <;> rw [h] <;> decide
  · rw [if_neg h, if_neg h]
end Go.Proofs.YtnmepnpjjnonmaaDoor.Lem
