/-
  All slides of a state.
-/
import Derived.Test.YtehhfcbhoaocdaaLemSlideQP
namespace Go.Proofs.Ytehhfcbhoaocdaa.Lem
open Go.RowKit Go.Proofs.Ytehhfcbhoaocdaa.PP Go.Proofs.YtehhfcbhoaocdaaW.PrintWords Go.Proofs.YtehhfcbhoaocdaaW.PrintLast Go.Proofs.YtehhfcbhoaocdaaW.PrintMore
set_option linter.unusedVariables false
set_option linter.unusedSimpArgs false

abbrev Sl := S62
def slideAt (pl : List Int) (bl : List Blk) (s : List UInt8) (i : Nat) (b : Int) : List Sl := if (nextB pl bl s (i : Int) b).isSome = true then [⟨(i : Int), b⟩] else []
def slidesL (pl : List Int) (bl : List Blk) (s : List UInt8) : Nat → Nat → List Sl → List Sl
  | 0, _, acc => acc
  | d + 1, i, acc => slidesL pl bl s d (i + 1) ((acc ++ slideAt pl bl s i 1) ++ slideAt pl bl s i (-1))
theorem slideAt_len (pl : List Int) (bl : List Blk) (s : List UInt8) (i : Nat) (b : Int) : (slideAt pl bl s i b).length ≤ 1 := by
  unfold slideAt
  split <;> simp
theorem slidesL_len (pl : List Int) (bl : List Blk) (s : List UInt8) : ∀ d i acc, (slidesL pl bl s d i acc).length ≤ acc.length + 2 * d
  | 0, i, acc => Nat.le_refl _
  | d + 1, i, acc => by
    have h := slidesL_len pl bl s d (i + 1) ((acc ++ slideAt pl bl s i 1) ++ slideAt pl bl s i (-1))
    have h1 := slideAt_len pl bl s i 1
    have h2 := slideAt_len pl bl s i (-1)
    rw [List.length_append, List.length_append] at h
    show (slidesL pl bl s d (i + 1) _).length ≤ _
    omega
theorem spec_one {pl : List Int} {bl : List Blk} {s : List UInt8} (hg : goodB pl bl = true) (hs : isStB pl s = true) (i : Nat) (acc : List Sl) (ha : acc.length ≤ 1000) (n : Int) (b : Int) (hb : b > -2) (hb2 : b ≤ 1) {r : List Sl}
    (h : Ev (fun k => spec_boSlides.l1 k (tx s) (acc ++ slideAt pl bl s i b) (i : Int) (b - 2) n (i : Int) pl bl) r) : Ev (fun k => spec_boSlides.l1 k (tx s) acc (i : Int) b n (i : Int) pl bl) r := by
  obtain ⟨t, ht, h2, _⟩ := boPut pl bl s (i : Int) b hg hs
  refine ev_num ht h (fun k hk => ?_)
  simp only [spec_boSlides.l1]
  rw [if_pos hb, hk, obind, h2, w64 (n := b - 2) (by omega) (by omega)]
  unfold slideAt
  cases hn : (nextB pl bl s (i : Int) b).isSome with
  | false => rw [if_neg Bool.false_ne_true, if_neg Bool.false_ne_true, List.append_nil]
  | true => rw [if_pos rfl, if_pos rfl, if_pos (Nat.lt_of_le_of_lt ha (by decide))]
theorem spec_l0 {pl : List Int} {bl : List Blk} {s : List UInt8} (hg : goodB pl bl = true) (hs : isStB pl s = true) :
    ∀ d i acc, i + d = pl.length → acc.length ≤ 2 * i → Ev (fun k => spec_boSlides.l0 k (tx s) acc (pl.length : Int) (i : Int) pl bl) (slidesL pl bl s d i acc) := by
  obtain ⟨⟨g1, g6⟩, _⟩ := good_parts hg
  intro d
  induction d with
  | zero =>
    intro i acc h ha
    obtain rfl : i = pl.length := by omega
    refine Ev.step (f := fun _ => some acc) (fun k => ?_) (Ev.now _)
    simp only [spec_boSlides.l0]
    rw [if_neg (Int.lt_irrefl _)]
  | succ d ih =>
    intro i acc h ha
    have h1 := slideAt_len pl bl s i 1
    have h2 := slideAt_len pl bl s i (-1)
    refine Ev.step (fun k => by simp only [spec_boSlides.l0]; rw [if_pos (Int.ofNat_lt.2 (show i < pl.length by omega))]) ?_
    refine spec_one hg hs i acc (by omega) _ 1 (by decide) (by decide) ?_
    refine spec_one hg hs i (acc ++ slideAt pl bl s i 1) (by rw [List.length_append]; omega) _ (-1) (by decide) (by decide) ?_
    refine Ev.step (fun k => ?_) (ih (i + 1) ((acc ++ slideAt pl bl s i 1) ++ slideAt pl bl s i (-1)) (by omega) (by rw [List.length_append, List.length_append]; omega))
    simp only [spec_boSlides.l1]
    rw [if_neg (by decide), succ64 (by omega)]
theorem impl_one {pl : List Int} {bl : List Blk} {s : List UInt8} (hg : goodB pl bl = true) (hs : isStB pl s = true) (i : Nat) (acc : List Sl) (ha : acc.length ≤ 1000) (n : Int) (j : Nat) (hj : j < 2) (b : Int) (hb : [1, -1][j]? = some b) {r : List Sl}
    (h : Ev (fun k => impl_Bolts_slides.l1 k (tx s) (acc ++ slideAt pl bl s i b) (i : Int) n (i : Int) [1, -1] (([1, -1] : List Int).length : Int) ((j + 1 : Nat) : Int) pl bl) r) : Ev (fun k => impl_Bolts_slides.l1 k (tx s) acc (i : Int) n (i : Int) [1, -1] (([1, -1] : List Int).length : Int) (j : Int) pl bl) r := by
  obtain ⟨t, ht, h2, _⟩ := slid pl bl s (i : Int) b hg hs
  have hjl : (j : Int) < (([1, -1] : List Int).length : Int) := Int.ofNat_lt.2 hj
  have hrd : rd [1, -1] (j : Int) = b := by rw [rdD, List.getD_eq_getElem?_getD, hb]; rfl
  refine ev_num ht h (fun k hk => ?_)
  simp only [impl_Bolts_slides.l1]
  rw [if_pos hjl, if_pos (Int.natCast_nonneg _), if_pos hjl, hrd, hk, obind, h2, succ64 (by omega)]
  unfold slideAt
  cases hn : (nextB pl bl s (i : Int) b).isSome with
  | false => rw [if_neg Bool.false_ne_true, if_neg Bool.false_ne_true, List.append_nil]
  | true => rw [if_pos rfl, if_pos rfl, if_pos (Nat.lt_of_le_of_lt ha (by decide))]
theorem impl_l0 {pl : List Int} {bl : List Blk} {s : List UInt8} (hg : goodB pl bl = true) (hs : isStB pl s = true) :
    ∀ d i acc, i + d = s.length → acc.length ≤ 2 * i → Ev (fun k => impl_Bolts_slides.l0 k (tx s) acc (s.length : Int) (i : Int) pl bl) (slidesL pl bl s d i acc) := by
  obtain ⟨⟨g1, g6⟩, _⟩ := good_parts hg
  obtain ⟨hsl, _⟩ := st_parts hs
  intro d
  induction d with
  | zero =>
    intro i acc h ha
    obtain rfl : i = s.length := by omega
    refine Ev.step (f := fun _ => some acc) (fun k => ?_) (Ev.now _)
    simp only [impl_Bolts_slides.l0]
    rw [if_neg (Int.lt_irrefl _)]
  | succ d ih =>
    intro i acc h ha
    have h1 := slideAt_len pl bl s i 1
    have h2 := slideAt_len pl bl s i (-1)
    refine Ev.step (fun k => by simp only [impl_Bolts_slides.l0]; rw [if_pos (Int.ofNat_lt.2 (show i < s.length by omega)), obind]) ?_
    refine impl_one hg hs i acc (by omega) _ 0 (by decide) 1 rfl ?_
    refine impl_one hg hs i (acc ++ slideAt pl bl s i 1) (by rw [List.length_append]; omega) _ 1 (by decide) (-1) rfl ?_
    refine Ev.step (fun k => ?_) (ih (i + 1) ((acc ++ slideAt pl bl s i 1) ++ slideAt pl bl s i (-1)) (by omega) (by rw [List.length_append, List.length_append]; omega))
    simp only [impl_Bolts_slides.l1]
    rw [if_neg (by decide), succ64 (by omega)]
theorem rdSl_get {l : List Sl} {i : Nat} (h : i < l.length) : rd_T62 l (i : Int) = l[i] := by
  show l.getD i _ = l[i]
  simp [List.getD, h]
end Go.Proofs.Ytehhfcbhoaocdaa.Lem
