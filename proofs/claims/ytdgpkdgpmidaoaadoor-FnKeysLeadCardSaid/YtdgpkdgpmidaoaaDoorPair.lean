/-
  Moves of rings, one or both, in plain Lean: which can be made, what stands behind them; by numbers: the neighbours of a number. No program in sight.
-/
import Derived.Test.YtdgpkdgpmidaoaaDoorRing
namespace Go.Proofs.YtdgpkdgpmidaoaaDoor.Ring

def canR (l : List UInt8) (k : Nat) : Bool := k == 0 || (decide (k < l.length) && (l[k - 1]? == some 49) && (l.take (k - 1)).all (· == 48))
def flipC (c : UInt8) : UInt8 := if c = 49 then 48 else 49
def flipAt (l : List UInt8) (k : Nat) : List UInt8 := l.modify k flipC
def mvR (l : List UInt8) : List Nat := (List.range l.length).filter (canR l)
def mvP (l : List UInt8) : List Int := (if l[0]? = l[1]? then [-1] else []) ++ (mvR l).map (fun k : Nat => (k : Int))
def mkP (l : List UInt8) (k : Int) : List UInt8 := if k = -1 then flipAt (flipAt l 0) 1 else flipAt l k.toNat
/-- The numbers behind the moves of a number's state, in their order. -/
def nbr (r n : Nat) : List Nat := (mvP (stOf r n)).map (fun k => num (mkP (stOf r n) k))

theorem flipC_ok {c : UInt8} (h : okc c = true) : okc (flipC c) = true := by rcases okc_cases h with rfl | rfl <;> decide
theorem flipC_flipC {c : UInt8} (h : okc c = true) : flipC (flipC c) = c := by rcases okc_cases h with rfl | rfl <;> decide
theorem flipAt_length (l : List UInt8) (k : Nat) : (flipAt l k).length = l.length := by simp [flipAt]
theorem flipAt_get (l : List UInt8) (k j : Nat) : (flipAt l k)[j]? = if k = j then l[j]?.map flipC else l[j]? := by
  unfold flipAt
  rw [List.getElem?_modify]
  by_cases h : k = j
  · rw [if_pos h]; cases l[j]? <;> simp [h]
  · rw [if_neg h]; cases l[j]? <;> simp [h]
theorem all_get {l : List UInt8} : l.all okc = true ↔ ∀ (j : Nat) (c : UInt8), l[j]? = some c → okc c = true := by
  rw [List.all_eq_true]
  constructor
  · intro h j c hc
    exact h c (List.mem_of_getElem? hc)
  · intro h c hc
    obtain ⟨j, hj⟩ := List.mem_iff_getElem?.1 hc
    exact h j c hj
theorem flipAt_ok {l : List UInt8} (h : l.all okc = true) (k : Nat) : (flipAt l k).all okc = true := by
  rw [all_get] at h ⊢
  intro j c hc
  rw [flipAt_get] at hc
  by_cases e : k = j
  · rw [if_pos e] at hc
    cases hl : l[j]? with
    | none => rw [hl] at hc; cases hc
    | some b =>
      rw [hl] at hc
      obtain rfl := Option.some.inj hc
      exact flipC_ok (h j b hl)
  · rw [if_neg e] at hc
    exact h j c hc
theorem flipAt_flipAt {l : List UInt8} (h : l.all okc = true) (k : Nat) : flipAt (flipAt l k) k = l := by
  apply List.ext_getElem?
  intro j
  rw [flipAt_get, flipAt_get]
  by_cases e : k = j
  · rw [if_pos e, if_pos e]
    cases hl : l[j]? with
    | none => rfl
    | some b => simp [flipC_flipC (all_get.1 h j b hl)]
  · rw [if_neg e, if_neg e]
theorem flipAt_comm (l : List UInt8) (a b : Nat) : flipAt (flipAt l a) b = flipAt (flipAt l b) a := by
  apply List.ext_getElem?
  intro j
  rw [flipAt_get, flipAt_get, flipAt_get, flipAt_get]
  by_cases e : a = j <;> by_cases e2 : b = j <;> simp [e, e2]
theorem mkP_length (l : List UInt8) (k : Int) : (mkP l k).length = l.length := by
  unfold mkP
  split <;> simp [flipAt_length]
theorem mkP_ok {l : List UInt8} (h : l.all okc = true) (k : Int) : (mkP l k).all okc = true := by
  unfold mkP
  split
  · exact flipAt_ok (flipAt_ok h _) _
  · exact flipAt_ok h _
theorem nbr_lt {r n m : Nat} (h : m ∈ nbr r n) : m < 2 ^ r := by
  simp only [nbr, List.mem_map] at h
  obtain ⟨k, _, rfl⟩ := h
  have := num_lt (mkP (stOf r n) k)
  rw [mkP_length, stOf_length] at this
  exact this
theorem mkP_eq {r n : Nat} (k : Int) : mkP (stOf r n) k = stOf r (num (mkP (stOf r n) k)) := by
  have := stOf_num (mkP (stOf r n) k) (mkP_ok (stOf_ok r n) k)
  rw [mkP_length, stOf_length] at this
  exact this.symm
theorem mem_mvP {l : List UInt8} {k : Int} : k ∈ mvP l ↔ (k = -1 ∧ l[0]? = l[1]?) ∨ ∃ j : Nat, k = (j : Int) ∧ j < l.length ∧ canR l j = true := by
  unfold mvP mvR
  rw [List.mem_append]
  constructor
  · rintro (h | h)
    · left
      split at h
      · rename_i e; simp at h; exact ⟨h, e⟩
      · simp at h
    · right
      simp only [List.mem_map, List.mem_filter, List.mem_range] at h
      obtain ⟨j, ⟨h1, h2⟩, rfl⟩ := h
      exact ⟨j, rfl, h1, h2⟩
  · rintro (⟨rfl, e⟩ | ⟨j, rfl, h1, h2⟩)
    · left; rw [if_pos e]; simp
    · right
      simp only [List.mem_map, List.mem_filter, List.mem_range]
      exact ⟨j, ⟨h1, h2⟩, rfl⟩
/-- A ring's move can be taken back. -/
theorem canR_flip (l : List UInt8) (k : Nat) : canR (flipAt l k) k = canR l k := by
  unfold canR
  by_cases h0 : k = 0
  · simp [h0]
  · have e1 : (flipAt l k)[k - 1]? = l[k - 1]? := by rw [flipAt_get, if_neg (by omega)]
    have e2 : (flipAt l k).take (k - 1) = l.take (k - 1) := by
      apply List.ext_getElem?
      intro j
      rw [List.getElem?_take, List.getElem?_take]
      by_cases hj : j < k - 1
      · rw [if_pos hj, if_pos hj, flipAt_get, if_neg (by omega)]
      · rw [if_neg hj, if_neg hj]
    rw [e1, e2, flipAt_length]
theorem back_mkP {l : List UInt8} (h : l.all okc = true) {k : Int} (hk : k ∈ mvP l) : k ∈ mvP (mkP l k) ∧ mkP (mkP l k) k = l := by
  rw [mem_mvP] at hk ⊢
  rcases hk with ⟨rfl, e⟩ | ⟨j, rfl, h1, hc⟩
  · have e0 : mkP l (-1) = flipAt (flipAt l 0) 1 := rfl
    constructor
    · left
      refine ⟨rfl, ?_⟩
      rw [e0]
      simp only [flipAt_get]
      simp [e]
    · rw [e0]
      show flipAt (flipAt (flipAt (flipAt l 0) 1) 0) 1 = l
      rw [flipAt_comm l 0 1, flipAt_flipAt (flipAt_ok h _), flipAt_flipAt h]
  · have e0 : mkP l (j : Int) = flipAt l j := by unfold mkP; rw [if_neg (by omega)]; rfl
    have e1 : mkP (flipAt l j) (j : Int) = flipAt (flipAt l j) j := by unfold mkP; rw [if_neg (by omega)]; rfl
    constructor
    · right
      exact ⟨j, rfl, by rw [e0, flipAt_length]; exact h1, by rw [e0, canR_flip]; exact hc⟩
    · rw [e0, e1, flipAt_flipAt h]
end Go.Proofs.YtdgpkdgpmidaoaaDoor.Ring
