/-
  Rows of strings: compared with one another, marked with running numbers, and held to the marks.
-/
import Derived.Test.YthjkjlfobgegpaaDoorLemTextK
namespace Go.Proofs.YthjkjlfobgegpaaDoor.Lem
open Go.RowKit Go.Proofs.YthjkjlfobgegpaaDoor.PK Go.Proofs.YthjkjlfobgegpaaDoorW.PrintWords Go.Proofs.YthjkjlfobgegpaaDoorW.PrintLast Go.Proofs.YthjkjlfobgegpaaDoorW.PrintMore
set_option linter.unusedVariables false
set_option linter.unusedSimpArgs false

theorem eqSS_l0 (l : List ByteArray) (hl : l.length < 1000000000) : ∀ (d i : Nat), i + d = l.length → Ev (fun k => laws_eqStringS.l0 k l l (i : Int)) true := by
  intro d
  induction d with
  | zero =>
    intro i hi
    refine Ev.step (f := fun _ => some true) (fun k => ?_) (Ev.now _)
    simp only [laws_eqStringS.l0]
    rw [if_neg (by omega)]
  | succ d ih =>
    intro i hi
    refine Ev.step (fun k => ?_) (ih (i + 1) (by omega))
    simp only [laws_eqStringS.l0]
    rw [if_pos (by omega), if_pos (by omega), if_pos (by omega), if_pos trivial, succ64 (by omega)]
theorem eqSS (l : List ByteArray) (hl : l.length < 1000000000) : Ev (fun k => laws_eqStringS.f k l l) true := by
  unfold laws_eqStringS.f
  exact Ev.congr (fun k => if_pos rfl) (eqSS_l0 l hl l.length 0 (by omega))
theorem markText_l0 : ∀ (f n : Nat) (x : ByteArray), n ≤ f → n ≤ 1000000000 → x.size + n ≤ 2000000000 → ∃ v, Ev (fun k => laws_markText.l0 k (n : Int) x) v := by
  intro f
  induction f with
  | zero =>
    intro n x hn _ hx
    have : n = 0 := by omega
    subst this
    refine ⟨(⟨#[109]⟩ : ByteArray) ++ x, Ev.step (f := fun _ => some ((⟨#[109]⟩ : ByteArray) ++ x)) (fun k => ?_) (Ev.now _)⟩
    simp only [laws_markText.l0]
    rw [if_neg (by omega), if_pos (by omega)]
  | succ f ih =>
    intro n x hn hb hx
    by_cases h0 : n = 0
    · subst h0
      refine ⟨(⟨#[109]⟩ : ByteArray) ++ x, Ev.step (f := fun _ => some ((⟨#[109]⟩ : ByteArray) ++ x)) (fun k => ?_) (Ev.now _)⟩
      simp only [laws_markText.l0]
      rw [if_neg (by omega), if_pos (by omega)]
    · have hs : (strOfNums [(wrap64 (48 + (Int.tmod (n : Int) 10))) % 256] ++ x).size = 1 + x.size := by rw [ByteArray.size_append]; rfl
      obtain ⟨v, hv⟩ := ih (n / 10) (strOfNums [(wrap64 (48 + (Int.tmod (n : Int) 10))) % 256] ++ x) (by omega) (by omega) (by rw [hs]; omega)
      refine ⟨v, Ev.step (fun k => ?_) hv⟩
      simp only [laws_markText.l0]
      have e : wrap64 (Int.tdiv (n : Int) 10) = ((n / 10 : Nat) : Int) := by
        have : Int.tdiv (n : Int) 10 = ((n / 10 : Nat) : Int) := by rw [Int.tdiv_eq_ediv_of_nonneg (by omega)]; omega
        rw [this, w64 (by omega) (by omega)]
      rw [if_pos (by omega), e, obind, if_pos (by show 1 + x.size ≤ _; omega)]
theorem markText (n : Nat) (hn : n ≤ 1000000000) : ∃ v, Ev (fun k => laws_markText.f k (n : Int)) v := by
  by_cases h : n = 0
  · subst h
    refine ⟨(⟨#[109, 48]⟩ : ByteArray), Ev.congr (fun k => ?_) (Ev.now _)⟩
    unfold laws_markText.f
    rw [if_pos (by omega)]
  · obtain ⟨v, hv⟩ := markText_l0 n n (⟨#[]⟩ : ByteArray) (Nat.le_refl _) hn (by show 0 + n ≤ _; omega)
    refine ⟨v, Ev.congr (fun k => ?_) hv⟩
    unfold laws_markText.f
    rw [if_neg (by omega)]
theorem getD_set {l : List ByteArray} {i j : Nat} {v : ByteArray} (hi : i < l.length) : (l.set i v).getD j ByteArray.empty = if j = i then v else l.getD j ByteArray.empty := by
  simp only [List.getD, List.getElem?_set]
  by_cases h : i = j
  · subst h
    simp [hi]
  · rw [if_neg h, if_neg (fun e => h e.symm)]
theorem marks_l0 : ∀ (d i : Nat) (l : List ByteArray), i + d = l.length → l.length < 900000000 → (∀ j, j < i → Ev (fun k => laws_markText.f k ((j + 1 : Nat) : Int)) (l.getD j ByteArray.empty)) →
    ∃ l' : List ByteArray, l'.length = l.length ∧ (∀ j, j < l.length → Ev (fun k => laws_markText.f k ((j + 1 : Nat) : Int)) (l'.getD j ByteArray.empty)) ∧
      Ev (fun k => laws_markStringS.l0 k l ((i + 1 : Nat) : Int) (i : Int)) (((l.length + 1 : Nat) : Int), l') := by
  intro d
  induction d with
  | zero =>
    intro i l hi hl h
    refine ⟨l, rfl, fun j hj => h j (by omega), Ev.step (f := fun _ => some (((l.length + 1 : Nat) : Int), l)) (fun k => ?_) (Ev.now _)⟩
    simp only [laws_markStringS.l0]
    rw [if_neg (by omega)]
    have : i = l.length := by omega
    rw [this]
  | succ d ih =>
    intro i l hi hl h
    obtain ⟨v, hv⟩ := markText (i + 1) (by omega)
    obtain ⟨l', h1, h2, h3⟩ := ih (i + 1) (l.set i v) (by rw [List.length_set]; omega) (by rw [List.length_set]; omega) (fun j hj => by
      rw [getD_set (by omega)]
      by_cases e : j = i
      · rw [if_pos e, e]; exact hv
      · rw [if_neg e]; exact h j (by omega))
    rw [List.length_set] at h1 h2 h3
    refine ⟨l', h1, h2, Ev.step (f := fun k => (laws_markText.f k ((i + 1 : Nat) : Int)).bind fun t172 => (laws_markStringS.l0 k (l.set i t172) ((i + 1 + 1 : Nat) : Int) ((i + 1 : Nat) : Int))) (fun k => ?_) (Ev.bind hv h3)⟩
    simp only [laws_markStringS.l0]
    have h0 : (0 : Int) ≤ (i : Int) := by omega
    rw [if_pos (by omega)]
    simp only [if_pos h0]
    rw [succ64 (by omega), succ64 (by omega)]
    rfl
theorem held_l0 (l : List ByteArray) (hl : l.length < 900000000) (h : ∀ j, j < l.length → Ev (fun k => laws_markText.f k ((j + 1 : Nat) : Int)) (l.getD j ByteArray.empty)) : ∀ (d i : Nat), i + d = l.length →
    Ev (fun k => laws_heldStringS.l0 k l ((i + 1 : Nat) : Int) (i : Int)) ((l.length + 1 : Nat) : Int) := by
  intro d
  induction d with
  | zero =>
    intro i hi
    refine Ev.step (f := fun _ => some ((l.length + 1 : Nat) : Int)) (fun k => ?_) (Ev.now _)
    simp only [laws_heldStringS.l0]
    rw [if_neg (by omega)]
    have : i = l.length := by omega
    rw [this]
  | succ d ih =>
    intro i hi
    refine Ev.step (f := fun k => (laws_markText.f k ((i + 1 : Nat) : Int)).bind fun t175 => (if (l.getD i ByteArray.empty).toList = t175.toList then (laws_heldStringS.l0 k l ((i + 1 + 1 : Nat) : Int) ((i + 1 : Nat) : Int)) else (some (-1)))) (fun k => ?_) (Ev.bind (h i (by omega)) (Ev.congr (fun k => if_pos rfl) (ih (i + 1) (by omega))))
    simp only [laws_heldStringS.l0]
    rw [if_pos (by omega), if_pos (by omega), succ64 (by omega), succ64 (by omega)]
    rfl
/-- A row that is marked holds its marks. -/
theorem marks (l : List ByteArray) (hl : l.length < 900000000) : ∃ l' : List ByteArray, Ev (fun k => laws_markStringS.f k l 1) (((l.length + 1 : Nat) : Int), l') ∧ Ev (fun k => laws_heldStringS.f k l' 1) ((l.length + 1 : Nat) : Int) := by
  obtain ⟨l', h1, h2, h3⟩ := marks_l0 l.length 0 l (by omega) hl (fun j hj => absurd hj (Nat.not_lt_zero j))
  refine ⟨l', h3, ?_⟩
  have := held_l0 l' (by omega) (by rw [h1]; exact h2) l'.length 0 (by omega)
  rw [h1] at this
  exact this
end Go.Proofs.YthjkjlfobgegpaaDoor.Lem
