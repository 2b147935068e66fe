/-
  The laws' copies and comparisons of bolts.
-/
import Derived.Test.YtehhfcbhoaocdaaLemSlideQP
namespace Go.Proofs.Ytehhfcbhoaocdaa.Lem
open Go.RowKit Go.Proofs.Ytehhfcbhoaocdaa.PP Go.Proofs.YtehhfcbhoaocdaaW.PrintWords Go.Proofs.YtehhfcbhoaocdaaW.PrintLast Go.Proofs.YtehhfcbhoaocdaaW.PrintMore
set_option linter.unusedVariables false
set_option linter.unusedSimpArgs false

/-- A copying loop. -/
theorem ev_copy {α : Type} (g : Nat → List α → Int → Option (List α)) (src : List α)
    (hs : ∀ i (hi : i < src.length) (acc : List α), acc.length = src.length → ∀ k, g (k + 1) acc (i : Int) = g k (acc.set i src[i]) ((i + 1 : Nat) : Int))
    (he : ∀ acc : List α, ∀ k, g (k + 1) acc ((src.length : Nat) : Int) = some acc) :
    ∀ d i acc, i + d = src.length → acc.length = src.length → acc.take i = src.take i → Ev (fun k => g k acc (i : Int)) src
  | 0, i, acc, h, hl, ht => by
    obtain rfl : i = src.length := by omega
    rw [List.take_length, ← hl, List.take_length] at ht
    subst ht
    exact Ev.step (f := fun _ => some acc) (fun k => he acc k) (Ev.now _)
  | d + 1, i, acc, h, hl, ht => by
    have hi : i < src.length := by omega
    refine Ev.step (fun k => hs i hi acc hl k) (ev_copy g src hs he d (i + 1) (acc.set i src[i]) (by omega) (by rw [List.length_set]; exact hl) ?_)
    rw [List.take_succ_eq_append_getElem (by rw [List.length_set, hl]; exact hi), List.take_set_of_le (Nat.le_refl i), ht, List.getElem_set_self, ← List.take_succ_eq_append_getElem hi]
theorem toIntS (l : List Int) (hl : l.length ≤ 1048576) : Ev (fun k => laws_toIntS.f k l) l := by
  unfold laws_toIntS.f
  refine Ev.congr (fun k => by rw [if_pos (Int.natCast_nonneg _), Int.toNat_natCast, if_pos (Nat.le_trans hl (by decide))]) ?_
  refine ev_copy (fun k acc i => laws_toIntS.l0 k l acc i) l (fun i hi acc ha k => ?_) (fun acc k => ?_) l.length 0 _ (Nat.zero_add _) (List.length_replicate ..) rfl
  · simp only [laws_toIntS.l0]
    rw [if_pos (Int.ofNat_lt.2 hi), if_pos (Int.natCast_nonneg _), if_pos (by rw [ha]; exact Int.ofNat_lt.2 hi), rd_get hi, Int.toNat_natCast, succ64 (by omega)]
  · simp only [laws_toIntS.l0]
    rw [if_neg (Int.lt_irrefl _)]
/-- A block as the program has it. -/
def cp (b : S82) : Blk := ⟨b.f0, b.f1, b.f2, b.f3⟩
theorem rdA_get {l : List S82} {i : Nat} (h : i < l.length) : rd_T82 l (i : Int) = l[i] := by
  unfold rd_T82
  simp [List.getD, h]
theorem toBlockS (l : List S82) (hl : l.length ≤ 1048576) : Ev (fun k => laws_toBlockS.f k l) (l.map cp) := by
  unfold laws_toBlockS.f
  refine Ev.congr (fun k => by rw [if_pos (Int.natCast_nonneg _), Int.toNat_natCast, if_pos (Nat.le_trans hl (by decide))]) ?_
  refine ev_copy (fun k acc i => laws_toBlockS.l0 k l acc i) (l.map cp) (fun i hi acc ha k => ?_) (fun acc k => ?_) l.length 0 _ (by rw [List.length_map, Nat.zero_add]) (by rw [List.length_replicate, List.length_map]) rfl
  · rw [List.length_map] at hi ha
    simp only [laws_toBlockS.l0]
    rw [if_pos (Int.ofNat_lt.2 hi), if_pos (Int.natCast_nonneg _), rdA_get hi]
    unfold laws_toBlock.f
    rw [obind, if_pos (by rw [ha]; exact Int.ofNat_lt.2 hi), Int.toNat_natCast, succ64 (by omega), List.getElem_map]
    rfl
  · simp only [laws_toBlockS.l0]
    rw [List.length_map, if_neg (Int.lt_irrefl _)]
theorem toBolts (l : List Int) (bl : List S82) (hl : l.length ≤ 1048576) (hb : bl.length ≤ 1048576) : Ev (fun k => laws_toBolts.f k l bl) (l, bl.map cp) := by
  unfold laws_toBolts.f
  exact Ev.bind (toIntS l hl) (Ev.bind (f := fun _ t => some (l, t)) (toBlockS bl hb) (Ev.now _))
theorem eqIntS (l : List Int) (hl : l.length ≤ 1048576) : Ev (fun k => laws_eqIntS.f k l l) true := by
  unfold laws_eqIntS.f
  refine Ev.congr (fun k => if_pos rfl) ?_
  have h := ev_all (fun k i => laws_eqIntS.l0 k l l i) (fun _ => true) l.length ?_ ?_ ?_ l.length 0 (Nat.zero_add _)
  · rwa [List.all_eq_true.2 (fun _ _ => rfl)] at h
  · intro i hi _ r hr
    refine Ev.step (fun k => ?_) hr
    simp only [laws_eqIntS.l0]
    rw [if_pos (Int.ofNat_lt.2 hi), if_pos (Int.natCast_nonneg _), if_pos (Int.ofNat_lt.2 hi), if_pos trivial, succ64 (by omega)]
  · intro i hi h
    simp at h
  · refine Ev.step (f := fun _ => some true) (fun k => ?_) (Ev.now _)
    simp only [laws_eqIntS.l0]
    rw [if_neg (Int.lt_irrefl _)]
theorem eqBlockS (l : List Blk) (hl : l.length ≤ 1048576) : Ev (fun k => laws_eqBlockS.f k l l) true := by
  unfold laws_eqBlockS.f
  refine Ev.congr (fun k => if_pos rfl) ?_
  have h := ev_all (fun k i => laws_eqBlockS.l0 k l l i) (fun _ => true) l.length ?_ ?_ ?_ l.length 0 (Nat.zero_add _)
  · rwa [List.all_eq_true.2 (fun _ _ => rfl)] at h
  · intro i hi _ r hr
    refine Ev.step (fun k => ?_) hr
    simp only [laws_eqBlockS.l0, laws_eqBlock.f]
    rw [if_pos (Int.ofNat_lt.2 hi), if_pos (Int.natCast_nonneg _), if_pos (Int.ofNat_lt.2 hi), if_pos trivial, if_pos trivial, if_pos trivial, if_pos trivial, obind, if_pos rfl, succ64 (by omega)]
  · intro i hi h
    simp at h
  · refine Ev.step (f := fun _ => some true) (fun k => ?_) (Ev.now _)
    simp only [laws_eqBlockS.l0]
    rw [if_neg (Int.lt_irrefl _)]
theorem eqBolts (l : List Int) (bl : List Blk) (hl : l.length ≤ 1048576) (hb : bl.length ≤ 1048576) : Ev (fun k => laws_eqBolts.f k l bl l bl) true := by
  unfold laws_eqBolts.f
  refine Ev.bind (eqIntS l hl) (Ev.congr (fun k => if_pos rfl) (Ev.bind (eqBlockS bl hb) (Ev.congr (fun k => if_pos rfl) (Ev.now _))))
/-- What the law's sizes let through. -/
theorem szBolts (l : List Int) (bl : List S82) (hl : l.length ≤ maxLen) (hb : bl.length ≤ maxLen) : ∃ t, laws_szBolts.f l bl 1048576 = some t ∧ (t < 0 ∨ (l.length ≤ 1048576 ∧ bl.length ≤ 1048576)) := by
  have hm : maxLen ≤ 9223372036854775807 := by decide
  unfold laws_szBolts.f laws_szIntS.f laws_szBlockS.f
  rw [w64 (n := 1048576 - (l.length : Int)) (by omega) (by omega)]
  by_cases h1 : (1048576 : Int) - (l.length : Int) < 0
  · rw [if_pos h1]
    exact ⟨-1, by rw [obind, if_pos (by decide)], Or.inl (by decide)⟩
  · rw [if_neg h1, obind, if_neg h1, w64 (n := 1048576 - (l.length : Int) - (bl.length : Int)) (by omega) (by omega)]
    by_cases h2 : (1048576 : Int) - (l.length : Int) - (bl.length : Int) < 0
    · rw [if_pos h2]
      exact ⟨-1, by rw [obind, if_pos (by decide)], Or.inl (by decide)⟩
    · rw [if_neg h2, obind, if_neg h2]
      exact ⟨_, rfl, Or.inr ⟨by omega, by omega⟩⟩
end Go.Proofs.Ytehhfcbhoaocdaa.Lem
