/-
  The laws' marks on bolts: the numbers that they put in, counted.
-/
import Derived.Test.YtehhfcbhoaocdaaLemCopyF
namespace Go.Proofs.Ytehhfcbhoaocdaa.Lem
open Go.RowKit Go.Proofs.Ytehhfcbhoaocdaa.PF Go.Proofs.YtehhfcbhoaocdaaW.PrintWords Go.Proofs.YtehhfcbhoaocdaaW.PrintLast Go.Proofs.YtehhfcbhoaocdaaW.PrintMore
set_option linter.unusedVariables false
set_option linter.unusedSimpArgs false

/-- A marking loop. -/
theorem ev_mark {α : Type} (g : Nat → List α → Int → Int → Option (Int × List α)) (n : Nat) (N : Nat → Int) (P : Nat → α → Prop)
    (hs : ∀ i (acc : List α), i < n → acc.length = n → ∃ acc' : List α, acc'.length = n ∧ (∀ j, j < i → acc'[j]? = acc[j]?) ∧ (∃ v, acc'[i]? = some v ∧ P i v) ∧ ∀ k, g (k + 1) acc (N i) (i : Int) = g k acc' (N (i + 1)) ((i + 1 : Nat) : Int))
    (he : ∀ acc : List α, acc.length = n → ∀ k, g (k + 1) acc (N n) ((n : Nat) : Int) = some (N n, acc)) :
    ∀ d i (acc : List α), i + d = n → acc.length = n → (∀ j, j < i → ∃ v, acc[j]? = some v ∧ P j v) → ∃ l, Ev (fun k => g k acc (N i) (i : Int)) (N n, l) ∧ l.length = n ∧ ∀ j, j < n → ∃ v, l[j]? = some v ∧ P j v
  | 0, i, acc, h, hl, hq => by
    obtain rfl : i = n := by omega
    exact ⟨acc, Ev.step (f := fun _ => some (N i, acc)) (fun k => he acc hl k) (Ev.now _), hl, hq⟩
  | d + 1, i, acc, h, hl, hq => by
    obtain ⟨acc', h1, h2, h3, h4⟩ := hs i acc (by omega) hl
    obtain ⟨l, e, hll, hv⟩ := ev_mark g n N P hs he d (i + 1) acc' (by omega) h1 (fun j hj => by
      by_cases hji : j = i
      · subst hji; exact h3
      · rw [h2 j (by omega)]; exact hq j (by omega))
    exact ⟨l, Ev.step (fun k => h4 k) e, hll, hv⟩
theorem get_set_lt {α : Type} {acc : List α} {i j : Nat} {v : α} (h : j < i) : (acc.set i v)[j]? = acc[j]? := by
  rw [List.getElem?_set_ne (by omega)]
theorem get_set_self {α : Type} {acc : List α} {i : Nat} {v : α} (h : i < acc.length) : (acc.set i v)[i]? = some v := by
  rw [List.getElem?_set_self h]
theorem markIntS (l : List Int) (a : Nat) (hl : l.length ≤ 1048576) (ha : a ≤ 8388608) : ∃ l', Ev (fun k => laws_markIntS.f k l (a : Int)) (((a + l.length : Nat) : Int), l') := by
  unfold laws_markIntS.f
  have H := ev_mark (fun k acc x i => laws_markIntS.l0 k acc x i) l.length (fun i => ((a + i : Nat) : Int)) (fun _ _ => True) ?_ ?_ l.length 0 l (Nat.zero_add _) rfl (fun j hj => absurd hj (Nat.not_lt_zero j))
  · obtain ⟨l', h, _⟩ := H
    exact ⟨l', h⟩
  · intro i acc hi hn
    refine ⟨acc.set i ((a + i : Nat) : Int), by rw [List.length_set]; exact hn, fun j hj => get_set_lt hj, ⟨_, get_set_self (by omega), trivial⟩, fun k => ?_⟩
    simp only [laws_markIntS.l0]
    rw [if_pos (by rw [hn]; exact Int.ofNat_lt.2 hi), if_pos (Int.natCast_nonneg _), Int.toNat_natCast, succ64 (by omega), succ64 (by omega)]
    try rfl
  · intro acc hn k
    simp only [laws_markIntS.l0]
    rw [hn, if_neg (Int.lt_irrefl _)]
theorem rdB_set {l : List Blk} {i : Nat} {v : Blk} (h : i < l.length) : rd_T77 (l.set i v) (i : Int) = v := by
  rw [rdB_get (by rw [List.length_set]; exact h), List.getElem_set_self]
theorem markBlockS (l : List Blk) (a : Nat) (hl : l.length ≤ 1048576) (ha : a ≤ 8388608) : ∃ l', Ev (fun k => laws_markBlockS.f k l (a : Int)) (((a + 4 * l.length : Nat) : Int), l') := by
  unfold laws_markBlockS.f
  have H := ev_mark (fun k acc x i => laws_markBlockS.l0 k acc x i) l.length (fun i => ((a + 4 * i : Nat) : Int)) (fun _ _ => True) ?_ ?_ l.length 0 l (Nat.zero_add _) rfl (fun j hj => absurd hj (Nat.not_lt_zero j))
  · obtain ⟨l', h, _⟩ := H
    exact ⟨l', h⟩
  · intro i acc hi hn
    have hi' : i < acc.length := by omega
    refine ⟨acc.set i ⟨((a + 4 * i : Nat) : Int), ((a + 4 * i + 1 : Nat) : Int), ((a + 4 * i + 1 + 1 : Nat) : Int), ((a + 4 * i + 1 + 1 + 1 : Nat) : Int)⟩, by rw [List.length_set]; exact hn, fun j hj => get_set_lt hj, ⟨_, get_set_self hi', trivial⟩, fun k => ?_⟩
    simp only [laws_markBlockS.l0]
    rw [if_pos (by rw [hn]; exact Int.ofNat_lt.2 hi), if_pos (Int.natCast_nonneg _)]
    simp only [obind, Int.toNat_natCast, rdB_set hi', List.set_set]
    rw [succ64 (n := a + 4 * i) (by omega), succ64 (n := a + 4 * i + 1) (by omega), succ64 (n := a + 4 * i + 1 + 1) (by omega), succ64 (n := a + 4 * i + 1 + 1 + 1) (by omega), succ64 (n := i) (by omega)]
    rfl
  · intro acc hn k
    simp only [laws_markBlockS.l0]
    rw [hn, if_neg (Int.lt_irrefl _)]
theorem markBolts (l : List Int) (bl : List Blk) (hl : l.length ≤ 1048576) (hb : bl.length ≤ 1048576) : ∃ r, Ev (fun k => laws_markBolts.f k l bl 1) r ∧ 0 ≤ r.1 := by
  obtain ⟨l1, h1⟩ := markIntS l 1 hl (by omega)
  obtain ⟨l2, h2⟩ := markBlockS bl (1 + l.length) hb (by omega)
  refine ⟨(((1 + l.length + 4 * bl.length : Nat) : Int), l1, l2), ?_, Int.natCast_nonneg _⟩
  unfold laws_markBolts.f
  exact Ev.bind h1 (Ev.bind (f := fun _ t => some (t.1, l1, t.2)) h2 (Ev.now _))
end Go.Proofs.Ytehhfcbhoaocdaa.Lem
