/-
  What stands behind a move: the reference's text and the program's.
-/
import Derived.Test.YtppbohghongfmaaDoorLemPairN
namespace Go.Proofs.YtppbohghongfmaaDoor.Lem
open Go.RowKit Go.Proofs.YtppbohghongfmaaDoor.PN Go.Proofs.YtppbohghongfmaaDoorW.PrintWords Go.Proofs.YtppbohghongfmaaDoorW.PrintLast Go.Proofs.YtppbohghongfmaaDoorW.PrintMore Go.Proofs.YtppbohghongfmaaDoor.Ring
set_option linter.unusedVariables false
set_option linter.unusedSimpArgs false

/-- The text of a list of signs. -/
def tx (l : List UInt8) : ByteArray := ⟨l.toArray⟩
theorem tx_data (l : List UInt8) : (tx l).data.toList = l := by simp [tx]
theorem tx_size (l : List UInt8) : (tx l).size = l.length := by rw [size_eq, tx_data]
theorem ba_ext {a b : ByteArray} (h : a.data.toList = b.data.toList) : a = b := by
  apply ByteArray.ext
  exact Array.toList_inj.1 h
theorem tx_self (s : ByteArray) : tx s.data.toList = s := ba_ext (tx_data _)
theorem flip_parts (l : List UInt8) (k : Nat) (hk : k < l.length) : flipAt l k = l.take k ++ flipC l[k] :: l.drop (k + 1) := by
  unfold flipAt
  exact List.modify_eq_take_cons_drop hk
theorem join3 (l : List UInt8) (k : Nat) (hk : k < l.length) (c : UInt8) (hc : flipC l[k] = c) : (((tx l).extract 0 k ++ (⟨#[c]⟩ : ByteArray)) ++ (tx l).extract (k + 1) l.length) = tx (flipAt l k) := by
  apply ba_ext
  rw [tx_data, flip_parts l k hk, hc, ByteArray.data_append, ByteArray.data_append, Array.toList_append, Array.toList_append, extract_list, extract_list, tx_data, List.drop_zero, List.take_of_length_le (Nat.le_refl _)]
  simp
theorem riMove (l : List UInt8) (h20 : l.length ≤ 20) (ho : l.all okc = true) (k : Nat) (hk : k < l.length) : spec_riMove.f (tx l) (k : Int) = some (tx (flipAt l k)) := by
  have e := tx_size l
  have hb : bt (tx l) (k : Int) = (l[k].toNat : Int) := bt_opt (by rw [tx_data]; exact List.getElem?_eq_getElem hk)
  have hc : okc l[k] = true := List.all_eq_true.1 ho _ (List.getElem_mem _)
  have e1 : ((k : Nat) : Int).toNat = k := rfl
  have e2 : ((k + 1 : Nat) : Int).toNat = k + 1 := rfl
  have hx1 : ((tx l).extract 0 k).size ≤ 20 := by rw [size_eq, extract_list]; simp; omega
  have hx2 : ((tx l).extract (k + 1) l.length).size ≤ 20 := by rw [size_eq, extract_list, tx_data]; simp; omega
  unfold spec_riMove.f
  rw [if_pos (by omega), e, if_pos (by omega), hb]
  simp only [is49]
  have es : wrap64 ((k : Int) + 1) = ((k + 1 : Nat) : Int) := succ64 (by omega)
  rw [es, e1, e2]
  have hs1 : ∀ c : UInt8, ((tx l).extract 0 k ++ (⟨#[c]⟩ : ByteArray)).size = ((tx l).extract 0 k).size + 1 := fun c => by rw [ByteArray.size_append]; rfl
  rcases okc_cases hc with h | h
  · rw [if_neg (by rw [h]; decide), if_pos (by omega), if_pos (by omega), if_pos (by omega), if_pos (by omega), if_pos (by rw [hs1]; omega), join3 l k hk 49 (by rw [h]; decide)]
  · rw [if_pos h, if_pos (by omega), if_pos (by omega), if_pos (by omega), if_pos (by omega), if_pos (by rw [hs1]; omega), join3 l k hk 48 (by rw [h]; decide)]
theorem turned (l : List UInt8) (h20 : l.length ≤ 20) (ho : l.all okc = true) (k : Nat) (hk : k < l.length) : impl_turned.f (tx l) (k : Int) = some (tx (flipAt l k)) := by
  have e := tx_size l
  have hc : okc l[k] = true := List.all_eq_true.1 ho _ (List.getElem_mem _)
  have e1 : ((k : Nat) : Int).toNat = k := rfl
  have eg : l.getD k 0 = l[k] := by rw [List.getD_eq_getElem?_getD, List.getElem?_eq_getElem hk]; rfl
  unfold impl_turned.f
  rw [e1, tx_data, eg, e]
  have h97 : l[k].toNat ≤ 97 := by rcases okc_cases hc with h | h <;> rw [h] <;> decide
  rw [if_pos ⟨by omega, by omega, by omega, h97⟩]
  congr 1
  apply ba_ext
  rw [tx_data]
  apply List.ext_getElem?
  intro j
  show (l.set k (UInt8.ofNat (97 - l[k].toNat)))[j]? = _
  rw [List.getElem?_set, flipAt_get]
  by_cases h : k = j
  · subst h
    rw [if_pos rfl, if_pos rfl, if_pos hk, List.getElem?_eq_getElem hk]
    simp only [Option.map_some, Option.some.injEq]
    rcases okc_cases hc with h | h <;> rw [h] <;> decide
  · rw [if_neg h, if_neg h]
theorem twMake (l : List UInt8) (h2 : 2 ≤ l.length) (h20 : l.length ≤ 20) (ho : l.all okc = true) (k : Int) (hk : k ∈ mvP l) : spec_twMake.f (tx l) k = some (tx (mkP l k)) := by
  unfold spec_twMake.f mkP
  rcases mem_mvP.1 hk with ⟨rfl, _⟩ | ⟨j, rfl, hj, _⟩
  · have h0 := riMove l h20 ho 0 (by omega)
    have h1 := riMove (flipAt l 0) (by rw [flipAt_length]; omega) (flipAt_ok ho 0) 1 (by rw [flipAt_length]; omega)
    rw [show ((0 : Nat) : Int) = 0 from rfl] at h0
    rw [show ((1 : Nat) : Int) = 1 from rfl] at h1
    rw [if_pos rfl, if_pos rfl, h0, obind, h1, obind]
  · rw [if_neg (by omega), if_neg (by omega), riMove l h20 ho j hj, obind]
    rfl
theorem paired (l : List UInt8) (h2 : 2 ≤ l.length) (h20 : l.length ≤ 20) (ho : l.all okc = true) (k : Int) (hk : k ∈ mvP l) : impl_paired.f (tx l) k = some (tx (mkP l k)) := by
  unfold impl_paired.f mkP
  rcases mem_mvP.1 hk with ⟨rfl, _⟩ | ⟨j, rfl, hj, _⟩
  · have h0 := turned l h20 ho 0 (by omega)
    have h1 := turned (flipAt l 0) (by rw [flipAt_length]; omega) (flipAt_ok ho 0) 1 (by rw [flipAt_length]; omega)
    rw [show ((0 : Nat) : Int) = 0 from rfl] at h0
    rw [show ((1 : Nat) : Int) = 1 from rfl] at h1
    rw [if_pos rfl, if_pos rfl, h0, obind, h1, obind]
  · rw [if_neg (by omega), if_neg (by omega), turned l h20 ho j hj, obind]
    rfl
end Go.Proofs.YtppbohghongfmaaDoor.Lem
