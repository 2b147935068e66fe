/-
  All slides of a state: the law holds.
-/
import Derived.Test.YtejkogiiocbmfaaLemMark
import Derived.Test.YtejkogiiocbmfaaPAx12
import Derived.Test.YtejkogiiocbmfaaPAx13
import Derived.Test.YtejkogiiocbmfaaPAx14
import Derived.Test.YtejkogiiocbmfaaPAx15
namespace Go.Proofs.Ytejkogiiocbmfaa.Lem
open Go.RowKit Go.Proofs.Ytejkogiiocbmfaa.PA Go.Proofs.YtejkogiiocbmfaaW.PrintWords Go.Proofs.YtejkogiiocbmfaaW.PrintLast Go.Proofs.YtejkogiiocbmfaaW.PrintMore
set_option linter.unusedVariables false
set_option linter.unusedSimpArgs false

abbrev Sl := S35
def slideAt (pl : List Int) (bl : List Blk) (s : List UInt8) (i : Nat) (b : Int) : List Sl := if (nextB pl bl s (i : Int) b).isSome = true then [⟨(i : Int), b⟩] else []
def slidesL (pl : List Int) (bl : List Blk) (s : List UInt8) : Nat → Nat → List Sl → List Sl
  | 0, _, acc => acc
  | d + 1, i, acc => slidesL pl bl s d (i + 1) ((acc ++ slideAt pl bl s i 1) ++ slideAt pl bl s i (-1))
theorem slideAt_len (pl : List Int) (bl : List Blk) (s : List UInt8) (i : Nat) (b : Int) : (slideAt pl bl s i b).length ≤ 1 := by
  unfold slideAt
  split <;> simp
theorem slidesL_len (pl : List Int) (bl : List Blk) (s : List UInt8) : ∀ d i acc, (slidesL pl bl s d i acc).length ≤ acc.length + 2 * d
  | 0, i, acc => Nat.le_refl _
  | d + 1, i, acc => by
    have h := slidesL_len pl bl s d (i + 1) ((acc ++ slideAt pl bl s i 1) ++ slideAt pl bl s i (-1))
    have h1 := slideAt_len pl bl s i 1
    have h2 := slideAt_len pl bl s i (-1)
    rw [List.length_append, List.length_append] at h
    show (slidesL pl bl s d (i + 1) _).length ≤ _
    omega
theorem spec_one {pl : List Int} {bl : List Blk} {s : List UInt8} (hg : goodB pl bl = true) (hs : isStB pl s = true) (i : Nat) (acc : List Sl) (ha : acc.length ≤ 1000) (n : Int) (b : Int) (hb : b > -2) (hb2 : b ≤ 1) {r : List Sl}
    (h : Ev (fun k => spec_boSlides.l1 k (tx s) (acc ++ slideAt pl bl s i b) (i : Int) (b - 2) n (i : Int) pl bl) r) : Ev (fun k => spec_boSlides.l1 k (tx s) acc (i : Int) b n (i : Int) pl bl) r := by
  obtain ⟨t, ht, h2, _⟩ := boPut pl bl s (i : Int) b hg hs
  refine ev_num ht h (fun k hk => ?_)
  simp only [spec_boSlides.l1]
  rw [if_pos hb, hk, obind, h2, w64 (n := b - 2) (by omega) (by omega)]
  unfold slideAt
  cases hn : (nextB pl bl s (i : Int) b).isSome with
  | false => rw [if_neg Bool.false_ne_true, if_neg Bool.false_ne_true, List.append_nil]
  | true => rw [if_pos rfl, if_pos rfl, if_pos (Nat.lt_of_le_of_lt ha (by decide))]
theorem spec_l0 {pl : List Int} {bl : List Blk} {s : List UInt8} (hg : goodB pl bl = true) (hs : isStB pl s = true) :
    ∀ d i acc, i + d = pl.length → acc.length ≤ 2 * i → Ev (fun k => spec_boSlides.l0 k (tx s) acc (pl.length : Int) (i : Int) pl bl) (slidesL pl bl s d i acc) := by
  obtain ⟨⟨g1, g6⟩, _⟩ := good_parts hg
  intro d
  induction d with
  | zero =>
    intro i acc h ha
    obtain rfl : i = pl.length := by omega
    refine Ev.step (f := fun _ => some acc) (fun k => ?_) (Ev.now _)
    simp only [spec_boSlides.l0]
    rw [if_neg (Int.lt_irrefl _)]
  | succ d ih =>
    intro i acc h ha
    have h1 := slideAt_len pl bl s i 1
    have h2 := slideAt_len pl bl s i (-1)
    refine Ev.step (fun k => by simp only [spec_boSlides.l0]; rw [if_pos (Int.ofNat_lt.2 (show i < pl.length by omega))]) ?_
    refine spec_one hg hs i acc (by omega) _ 1 (by decide) (by decide) ?_
    refine spec_one hg hs i (acc ++ slideAt pl bl s i 1) (by rw [List.length_append]; omega) _ (-1) (by decide) (by decide) ?_
    refine Ev.step (fun k => ?_) (ih (i + 1) ((acc ++ slideAt pl bl s i 1) ++ slideAt pl bl s i (-1)) (by omega) (by rw [List.length_append, List.length_append]; omega))
    simp only [spec_boSlides.l1]
    rw [if_neg (by decide), succ64 (by omega)]
theorem impl_one {pl : List Int} {bl : List Blk} {s : List UInt8} (hg : goodB pl bl = true) (hs : isStB pl s = true) (i : Nat) (acc : List Sl) (ha : acc.length ≤ 1000) (n : Int) (j : Nat) (hj : j < 2) (b : Int) (hb : [1, -1][j]? = some b) {r : List Sl}
    (h : Ev (fun k => impl_Bolts_slides.l1 k (tx s) (acc ++ slideAt pl bl s i b) (i : Int) n (i : Int) [1, -1] (([1, -1] : List Int).length : Int) ((j + 1 : Nat) : Int) pl bl) r) : Ev (fun k => impl_Bolts_slides.l1 k (tx s) acc (i : Int) n (i : Int) [1, -1] (([1, -1] : List Int).length : Int) (j : Int) pl bl) r := by
  obtain ⟨t, ht, h2, _⟩ := slid pl bl s (i : Int) b hg hs
  have hjl : (j : Int) < (([1, -1] : List Int).length : Int) := Int.ofNat_lt.2 hj
  have hrd : rd [1, -1] (j : Int) = b := by rw [rdD, List.getD_eq_getElem?_getD, hb]; rfl
  refine ev_num ht h (fun k hk => ?_)
  simp only [impl_Bolts_slides.l1]
  rw [if_pos hjl, if_pos (Int.natCast_nonneg _), if_pos hjl, hrd, hk, obind, h2, succ64 (by omega)]
  unfold slideAt
  cases hn : (nextB pl bl s (i : Int) b).isSome with
  | false => rw [if_neg Bool.false_ne_true, if_neg Bool.false_ne_true, List.append_nil]
  | true => rw [if_pos rfl, if_pos rfl, if_pos (Nat.lt_of_le_of_lt ha (by decide))]
theorem impl_l0 {pl : List Int} {bl : List Blk} {s : List UInt8} (hg : goodB pl bl = true) (hs : isStB pl s = true) :
    ∀ d i acc, i + d = s.length → acc.length ≤ 2 * i → Ev (fun k => impl_Bolts_slides.l0 k (tx s) acc (s.length : Int) (i : Int) pl bl) (slidesL pl bl s d i acc) := by
  obtain ⟨⟨g1, g6⟩, _⟩ := good_parts hg
  obtain ⟨hsl, _⟩ := st_parts hs
  intro d
  induction d with
  | zero =>
    intro i acc h ha
    obtain rfl : i = s.length := by omega
    refine Ev.step (f := fun _ => some acc) (fun k => ?_) (Ev.now _)
    simp only [impl_Bolts_slides.l0]
    rw [if_neg (Int.lt_irrefl _)]
  | succ d ih =>
    intro i acc h ha
    have h1 := slideAt_len pl bl s i 1
    have h2 := slideAt_len pl bl s i (-1)
    refine Ev.step (fun k => by simp only [impl_Bolts_slides.l0]; rw [if_pos (Int.ofNat_lt.2 (show i < s.length by omega)), obind]) ?_
    refine impl_one hg hs i acc (by omega) _ 0 (by decide) 1 rfl ?_
    refine impl_one hg hs i (acc ++ slideAt pl bl s i 1) (by rw [List.length_append]; omega) _ 1 (by decide) (-1) rfl ?_
    refine Ev.step (fun k => ?_) (ih (i + 1) ((acc ++ slideAt pl bl s i 1) ++ slideAt pl bl s i (-1)) (by omega) (by rw [List.length_append, List.length_append]; omega))
    simp only [impl_Bolts_slides.l1]
    rw [if_neg (by decide), succ64 (by omega)]
def slidesR (pl : List Int) (bl : List Blk) (s : List UInt8) : List Sl × Bool := if askedB pl bl s = true then (slidesL pl bl s pl.length 0 [], true) else ([], false)
theorem slidesR_len (pl : List Int) (bl : List Blk) (s : List UInt8) : (slidesR pl bl s).1.length ≤ 1000 := by
  unfold slidesR
  split
  · rename_i ha
    unfold askedB at ha
    simp only [Bool.and_eq_true] at ha
    obtain ⟨⟨g1, g6⟩, _⟩ := good_parts ha.1
    have := slidesL_len pl bl s pl.length 0 []
    simp at this
    show (slidesL pl bl s pl.length 0 []).length ≤ 1000
    omega
  · exact Nat.zero_le _
theorem spec_slides (pl : List Int) (bl : List Blk) (s : List UInt8) (hl : pl.length ≤ 1048576) (hb : bl.length ≤ 1048576) : Ev (fun k => spec_SlidesOf.f k pl bl (tx s)) (slidesR pl bl s) := by
  unfold spec_SlidesOf.f slidesR
  refine Ev.bind (boAsked pl bl s hl hb) ?_
  cases ha : askedB pl bl s with
  | false => exact Ev.congr (fun k => if_neg (by simp)) (Ev.now _)
  | true =>
    rw [if_pos rfl]
    unfold askedB at ha
    simp only [Bool.and_eq_true] at ha
    exact Ev.congr (fun k => if_pos rfl) (Ev.bind (f := fun _ t => some (t, true)) (spec_l0 ha.1 ha.2.1 pl.length 0 [] (Nat.zero_add _) (Nat.zero_le _)) (Ev.now _))
theorem impl_slides (pl : List Int) (bl : List Blk) (s : List UInt8) (hl : pl.length ≤ 1048576) (hb : bl.length ≤ 1048576) : Ev (fun k => impl_SlidesOf.f k pl bl (tx s)) (slidesR pl bl s) := by
  unfold impl_SlidesOf.f slidesR
  refine Ev.bind (good_one pl bl s hl hb) ?_
  cases ha : askedB pl bl s with
  | false => exact Ev.congr (fun k => if_neg (by simp)) (Ev.now _)
  | true =>
    rw [if_pos rfl]
    unfold askedB at ha
    simp only [Bool.and_eq_true] at ha
    have hsl := (st_parts ha.2.1).1
    have h := impl_l0 ha.1 ha.2.1 s.length 0 [] (Nat.zero_add _) (Nat.zero_le _)
    rw [hsl] at h
    refine Ev.congr (fun k => if_pos rfl) (Ev.bind (f := fun _ t => some (t, true)) ?_ (Ev.now _))
    unfold impl_Bolts_slides.f
    rw [tx_size, hsl]
    exact h
theorem rdSl_get {l : List Sl} {i : Nat} (h : i < l.length) : rd_T35 l (i : Int) = l[i] := by
  show l.getD i _ = l[i]
  simp [List.getD, h]
theorem rdSl_set {l : List Sl} {i : Nat} {v : Sl} (h : i < l.length) : rd_T35 (l.set i v) (i : Int) = v := by
  rw [rdSl_get (by rw [List.length_set]; exact h), List.getElem_set_self]
theorem eqSlideS (l : List Sl) (hl : l.length ≤ 1048576) : Ev (fun k => laws_eqSlideS.f k l l) true := by
  unfold laws_eqSlideS.f
  refine Ev.congr (fun k => if_pos rfl) ?_
  have h := ev_all (fun k i => laws_eqSlideS.l0 k l l i) (fun _ => true) l.length ?_ ?_ ?_ l.length 0 (Nat.zero_add _)
  · rwa [List.all_eq_true.2 (fun _ _ => rfl)] at h
  · intro i hi _ r hr
    refine Ev.step (fun k => ?_) hr
    simp only [laws_eqSlideS.l0, laws_eqSlide.f]
    rw [if_pos (Int.ofNat_lt.2 hi), if_pos (Int.natCast_nonneg _), if_pos (Int.ofNat_lt.2 hi), if_pos trivial, if_pos trivial, obind, if_pos rfl, succ64 (by omega)]
  · intro i hi h
    simp at h
  · refine Ev.step (f := fun _ => some true) (fun k => ?_) (Ev.now _)
    simp only [laws_eqSlideS.l0]
    rw [if_neg (Int.lt_irrefl _)]
def markedS (j : Nat) (v : Sl) : Prop := v = ⟨((1 + 2 * j : Nat) : Int), ((1 + 2 * j + 1 : Nat) : Int)⟩
theorem markSlideS (l : List Sl) (hl : l.length ≤ 1048576) : ∃ l', Ev (fun k => laws_markSlideS.f k l 1) (((1 + 2 * l.length : Nat) : Int), l') ∧ l'.length = l.length ∧ ∀ j, j < l.length → ∃ v, l'[j]? = some v ∧ markedS j v := by
  unfold laws_markSlideS.f
  have H := ev_mark (fun k acc x i => laws_markSlideS.l0 k acc x i) l.length (fun i => ((1 + 2 * i : Nat) : Int)) markedS ?_ ?_ l.length 0 l (Nat.zero_add _) rfl (fun j hj => absurd hj (Nat.not_lt_zero j))
  · obtain ⟨l', h, hr⟩ := H
    exact ⟨l', h, hr⟩
  · intro i acc hi hn
    have hi' : i < acc.length := by omega
    refine ⟨acc.set i ⟨((1 + 2 * i : Nat) : Int), ((1 + 2 * i + 1 : Nat) : Int)⟩, by rw [List.length_set]; exact hn, fun j hj => get_set_lt hj, ⟨_, get_set_self hi', rfl⟩, fun k => ?_⟩
    simp only [laws_markSlideS.l0]
    rw [if_pos (by rw [hn]; exact Int.ofNat_lt.2 hi), if_pos (Int.natCast_nonneg _)]
    simp only [obind, Int.toNat_natCast, rdSl_set hi', List.set_set]
    rw [succ64 (n := 1 + 2 * i) (by omega), succ64 (n := 1 + 2 * i + 1) (by omega), succ64 (n := i) (by omega)]
    rfl
  · intro acc hn k
    simp only [laws_markSlideS.l0]
    rw [hn, if_neg (Int.lt_irrefl _)]
theorem heldSlideS (l : List Sl) (n : Nat) (hn : l.length = n) (hl : n ≤ 1048576) (hv : ∀ j, j < n → ∃ v, l[j]? = some v ∧ markedS j v) : Ev (fun k => laws_heldSlideS.f k l 1) ((1 + 2 * n : Nat) : Int) := by
  unfold laws_heldSlideS.f
  have key : ∀ d i, i + d = n → Ev (fun k => laws_heldSlideS.l0 k l ((1 + 2 * i : Nat) : Int) (i : Int)) ((1 + 2 * n : Nat) : Int) := by
    intro d
    induction d with
    | zero =>
      intro i h
      obtain rfl : i = n := by omega
      refine Ev.step (f := fun _ => some ((1 + 2 * i : Nat) : Int)) (fun k => ?_) (Ev.now _)
      simp only [laws_heldSlideS.l0]
      rw [hn, if_neg (Int.lt_irrefl _)]
    | succ d ih =>
      intro i h
      have hi : i < l.length := by omega
      obtain ⟨v, hv1, hv2⟩ := hv i (by omega)
      rw [List.getElem?_eq_getElem hi] at hv1
      have hv3 : l[i] = ⟨((1 + 2 * i : Nat) : Int), ((1 + 2 * i + 1 : Nat) : Int)⟩ := (Option.some.inj hv1).trans hv2
      refine Ev.step (fun k => ?_) (ih (i + 1) (by omega))
      simp only [laws_heldSlideS.l0]
      rw [if_pos (Int.ofNat_lt.2 hi), if_pos (Int.natCast_nonneg _), rdSl_get hi, hv3, if_pos rfl, succ64 (n := 1 + 2 * i) (by omega), if_pos rfl, succ64 (n := 1 + 2 * i + 1) (by omega), succ64 (n := i) (by omega)]
      rfl
  exact key n 0 (Nat.zero_add _)
end Go.Proofs.Ytejkogiiocbmfaa.Lem
namespace Go.Proofs.Ytejkogiiocbmfaa.Pure
open Go.RowKit Go.Proofs.Ytejkogiiocbmfaa.Lem Go.Proofs.Ytejkogiiocbmfaa.PA Go.Proofs.YtejkogiiocbmfaaW.PrintWords Go.Proofs.YtejkogiiocbmfaaW.PrintLast Go.Proofs.YtejkogiiocbmfaaW.PrintMore

theorem FnExactSlidesOf : laws_FnExactSlidesOf.Pure := by
  intro pl bl s hl _ hb _
  obtain ⟨t, ht, hc⟩ := szBolts pl bl hl hb
  have key : Ev (fun k => laws_FnExactSlidesOf.f k pl bl s) true := by
    unfold laws_FnExactSlidesOf.f
    by_cases c0 : (s.size : Int) > 1048576
    · exact Ev.congr (fun k => if_pos c0) (Ev.now _)
    refine Ev.congr (fun k => if_neg c0) ?_
    refine Ev.congr (fun k => by rw [ht, obind]) ?_
    by_cases c1 : t < 0
    · exact Ev.congr (fun k => if_pos c1) (Ev.now _)
    have hh := hc.resolve_left c1
    have hb2 : (bl.map cp).length ≤ 1048576 := by rw [List.length_map]; exact hh.2
    have e1 := spec_slides pl (bl.map cp) s.data.toList hh.1 hb2
    have e2 := impl_slides pl (bl.map cp) s.data.toList hh.1 hb2
    have hn := slidesR_len pl (bl.map cp) s.data.toList
    rw [tx_self] at e1 e2
    generalize slidesR pl (bl.map cp) s.data.toList = R at e1 e2 hn
    have hq := eqSlideS R.1 (by omega)
    obtain ⟨l', hm, hml, hmv⟩ := markSlideS R.1 (by omega)
    have hld := heldSlideS l' R.1.length hml (by omega) hmv
    obtain ⟨rb, hmb, hmb0⟩ := markBolts pl (bl.map cp) hh.1 hb2
    refine Ev.congr (fun k => if_neg c1) (Ev.bind (toBolts pl bl hh.1 hh.2) (Ev.bind e1 (Ev.bind (toBolts pl bl hh.1 hh.2) (Ev.bind e2 (Ev.bind hq ?_)))))
    refine Ev.congr (fun k => by rw [if_pos rfl, bne_self_eq_false]) ?_
    refine Ev.step (fun k => by simp only [laws_FnExactSlidesOf.j0]; rw [if_neg Bool.false_ne_true]) ?_
    refine Ev.bind (toBolts pl bl hh.1 hh.2) (Ev.bind (eqBolts pl (bl.map cp) hh.1 hb2) ?_)
    refine Ev.congr (fun k => if_pos rfl) ?_
    refine Ev.bind hmb ?_
    refine Ev.congr (fun k => if_neg (show ¬ rb.1 < 0 by omega)) ?_
    refine Ev.bind hq ?_
    refine Ev.congr (fun k => by rw [if_pos rfl, bne_self_eq_false]) ?_
    refine Ev.step (fun k => by simp only [laws_FnExactSlidesOf.j1]; rw [if_neg Bool.false_ne_true]) ?_
    refine Ev.bind hm (Ev.bind hld ?_)
    refine Ev.congr (fun k => by rw [if_neg (show ¬ ((1 + 2 * R.1.length : Nat) : Int) < 0 by omega), if_pos rfl]) ?_
    refine Ev.bind (toBolts pl bl hh.1 hh.2) (Ev.bind e2 (Ev.bind hq ?_))
    refine Ev.congr (fun k => by rw [if_pos rfl, bne_self_eq_false]) ?_
    refine Ev.step (fun k => by simp only [laws_FnExactSlidesOf.j2]; rw [if_neg Bool.false_ne_true]) ?_
    refine Ev.bind hld ?_
    refine Ev.congr (fun k => by rw [if_neg (show ¬ ((1 + 2 * R.1.length : Nat) : Int) < 0 by omega), if_pos rfl]) (Ev.now _)
  obtain ⟨K, h⟩ := key
  exact ⟨K, h K (Nat.le_refl _)⟩
end Go.Proofs.Ytejkogiiocbmfaa.Pure
