/-
  The fewest slides, the first ones: the law holds.
-/
import Derived.Test.YtehhfcbhoaocdaaLemTwoF
import Derived.Test.YtehhfcbhoaocdaaLemMarkF
import Derived.Test.YtehhfcbhoaocdaaPFx16
import Derived.Sort.Walk0
namespace Go.Proofs.Ytehhfcbhoaocdaa.Bfs
set_option linter.unusedSectionVars false
end Go.Proofs.Ytehhfcbhoaocdaa.Bfs
namespace Go.Proofs.Ytehhfcbhoaocdaa.Lem
open Go.RowKit Go.Proofs.Ytehhfcbhoaocdaa.PF Go.Proofs.YtehhfcbhoaocdaaW.PrintWords Go.Proofs.YtehhfcbhoaocdaaW.PrintLast Go.Proofs.YtehhfcbhoaocdaaW.PrintMore Go.Proofs.Ytehhfcbhoaocdaa.Bfs
set_option linter.unusedVariables false
set_option linter.unusedSimpArgs false

theorem rdSl_set {l : List Sl} {i : Nat} {v : Sl} (h : i < l.length) : rd_T62 (l.set i v) (i : Int) = v := by
  rw [rdSl_get (by rw [List.length_set]; exact h), List.getElem_set_self]
theorem eqSlideS (l : List Sl) (hl : l.length ≤ 1048576) : Ev (fun k => laws_eqSlideS.f k l l) true := by
  unfold laws_eqSlideS.f
  refine Ev.congr (fun k => if_pos rfl) ?_
  have h := ev_all (fun k i => laws_eqSlideS.l0 k l l i) (fun _ => true) l.length ?_ ?_ ?_ l.length 0 (Nat.zero_add _)
  · rwa [List.all_eq_true.2 (fun _ _ => rfl)] at h
  · intro i hi _ r hr
    refine Ev.step (fun k => ?_) hr
    simp only [laws_eqSlideS.l0, laws_eqSlide.f]
    rw [if_pos (Int.ofNat_lt.2 hi), if_pos (Int.natCast_nonneg _), if_pos (Int.ofNat_lt.2 hi), if_pos trivial, if_pos trivial, obind, if_pos rfl, succ64 (by omega)]
  · intro i hi h
    simp at h
  · refine Ev.step (f := fun _ => some true) (fun k => ?_) (Ev.now _)
    simp only [laws_eqSlideS.l0]
    rw [if_neg (Int.lt_irrefl _)]
def markedS (j : Nat) (v : Sl) : Prop := v = ⟨((1 + 2 * j : Nat) : Int), ((1 + 2 * j + 1 : Nat) : Int)⟩
theorem markSlideS (l : List Sl) (hl : l.length ≤ 1048576) : ∃ l', Ev (fun k => laws_markSlideS.f k l 1) (((1 + 2 * l.length : Nat) : Int), l') ∧ l'.length = l.length ∧ ∀ j, j < l.length → ∃ v, l'[j]? = some v ∧ markedS j v := by
  unfold laws_markSlideS.f
  have H := ev_mark (fun k acc x i => laws_markSlideS.l0 k acc x i) l.length (fun i => ((1 + 2 * i : Nat) : Int)) markedS ?_ ?_ l.length 0 l (Nat.zero_add _) rfl (fun j hj => absurd hj (Nat.not_lt_zero j))
  · obtain ⟨l', h, hr⟩ := H
    exact ⟨l', h, hr⟩
  · intro i acc hi hn
    have hi' : i < acc.length := by omega
    refine ⟨acc.set i ⟨((1 + 2 * i : Nat) : Int), ((1 + 2 * i + 1 : Nat) : Int)⟩, by rw [List.length_set]; exact hn, fun j hj => get_set_lt hj, ⟨_, get_set_self hi', rfl⟩, fun k => ?_⟩
    simp only [laws_markSlideS.l0]
    rw [if_pos (by rw [hn]; exact Int.ofNat_lt.2 hi), if_pos (Int.natCast_nonneg _)]
    simp only [obind, Int.toNat_natCast, rdSl_set hi', List.set_set]
    rw [succ64 (n := 1 + 2 * i) (by omega), succ64 (n := 1 + 2 * i + 1) (by omega), succ64 (n := i) (by omega)]
    rfl
  · intro acc hn k
    simp only [laws_markSlideS.l0]
    rw [hn, if_neg (Int.lt_irrefl _)]
theorem heldSlideS (l : List Sl) (n : Nat) (hn : l.length = n) (hl : n ≤ 1048576) (hv : ∀ j, j < n → ∃ v, l[j]? = some v ∧ markedS j v) : Ev (fun k => laws_heldSlideS.f k l 1) ((1 + 2 * n : Nat) : Int) := by
  unfold laws_heldSlideS.f
  have key : ∀ d i, i + d = n → Ev (fun k => laws_heldSlideS.l0 k l ((1 + 2 * i : Nat) : Int) (i : Int)) ((1 + 2 * n : Nat) : Int) := by
    intro d
    induction d with
    | zero =>
      intro i h
      obtain rfl : i = n := by omega
      refine Ev.step (f := fun _ => some ((1 + 2 * i : Nat) : Int)) (fun k => ?_) (Ev.now _)
      simp only [laws_heldSlideS.l0]
      rw [hn, if_neg (Int.lt_irrefl _)]
    | succ d ih =>
      intro i h
      have hi : i < l.length := by omega
      obtain ⟨v, hv1, hv2⟩ := hv i (by omega)
      rw [List.getElem?_eq_getElem hi] at hv1
      have hv3 : l[i] = ⟨((1 + 2 * i : Nat) : Int), ((1 + 2 * i + 1 : Nat) : Int)⟩ := (Option.some.inj hv1).trans hv2
      refine Ev.step (fun k => ?_) (ih (i + 1) (by omega))
      simp only [laws_heldSlideS.l0]
      rw [if_pos (Int.ofNat_lt.2 hi), if_pos (Int.natCast_nonneg _), rdSl_get hi, hv3, if_pos rfl, succ64 (n := 1 + 2 * i) (by omega), if_pos rfl, succ64 (n := 1 + 2 * i + 1) (by omega), succ64 (n := i) (by omega)]
      rfl
  exact key n 0 (Nat.zero_add _)
/-! ### Slides go back -/
theorem slides_acc {pl : List Int} {bl : List Blk} {s : Stt} : ∀ d i acc, ∀ m ∈ acc, m ∈ slidesL pl bl s d i acc
  | 0, i, acc, m, h => h
  | d + 1, i, acc, m, h => slides_acc d (i + 1) _ m (List.mem_append_left _ (List.mem_append_left _ h))
theorem slides_in {pl : List Int} {bl : List Blk} {s : Stt} {j : Nat} {b : Int} (hb : b = 1 ∨ b = -1) (hn : (nextB pl bl s (j : Int) b).isSome = true) : ∀ d i acc, i ≤ j → j < i + d → (⟨(j : Int), b⟩ : Sl) ∈ slidesL pl bl s d i acc
  | 0, i, acc, h1, h2 => by omega
  | d + 1, i, acc, h1, h2 => by
    by_cases e : i = j
    · subst e
      refine slides_acc d (i + 1) _ _ ?_
      rcases hb with rfl | rfl
      · refine List.mem_append_left _ (List.mem_append_right _ ?_)
        unfold slideAt
        rw [if_pos hn]
        exact List.mem_singleton_self _
      · refine List.mem_append_right _ ?_
        unfold slideAt
        rw [if_pos hn]
        exact List.mem_singleton_self _
    · exact slides_in hb hn d (i + 1) _ (by omega) (by omega)
theorem stepB_back {pl : List Int} {bl : List Blk} (hg : goodB pl bl = true) {c a : Stt} (hc : okS pl bl c) (h : a ∈ stepB pl bl c) : c ∈ stepB pl bl a := by
  obtain ⟨m, hm, rfl⟩ := List.mem_map.1 h
  have hn := ms_some hm
  obtain ⟨a, ha⟩ : ∃ a, nx pl bl c m = a := ⟨_, rfl⟩
  rw [ha] at hn ⊢
  have hoa := next_ok hn
  obtain ⟨x, b⟩ := m
  have hn : nextB pl bl c x b = some a := hn
  unfold nextB at hn
  by_cases h1 : (0 ≤ x ∧ x < (c.length : Int)) ∧ (b = 1 ∨ b = -1)
  · rw [if_pos h1] at hn
    obtain ⟨⟨x0, x1⟩, hb⟩ := h1
    obtain ⟨i, rfl⟩ : ∃ i : Nat, x = (i : Int) := ⟨x.toNat, by omega⟩
    rw [Int.toNat_natCast] at hn
    have hi : i < c.length := Int.ofNat_lt.1 x1
    by_cases h2 : (isStB pl (put c i b) && freeB bl (put c i b)) = true
    · rw [if_pos h2] at hn
      have hp : put c i b = a := Option.some.inj hn
      have hal : i < a.length := by rw [← hp, put_length]; exact hi
      have hnb : -b = 1 ∨ -b = -1 := by omega
      obtain ⟨hcl, hcd⟩ := st_parts hc.1
      have hda : dg a i = dg c i + b := by rw [← hp, put_dg hg hc.1 hi hb, if_pos rfl]
      have hst : isStB pl (put a i (-b)) = true := by
        rw [put_st hg hoa.1 hal hnb, decide_eq_true_eq, hda]
        have := hcd i (by omega)
        omega
      have hback : put a i (-b) = c := by
        refine dg_ext hst hc.1 (fun j _ => ?_)
        rw [put_dg hg hoa.1 hal hnb]
        by_cases e : i = j
        · rw [if_pos e, hda, ← e]
          omega
        · rw [if_neg e, ← hp, put_dg hg hc.1 hi hb, if_neg e]
      have hnext : nextB pl bl a (i : Int) (-b) = some c := by
        unfold nextB
        rw [if_pos ⟨⟨Int.natCast_nonneg _, Int.ofNat_lt.2 hal⟩, hnb⟩, Int.toNat_natCast, hback, hc.1, hc.2]
        rfl
      have hall := (st_parts hoa.1).1
      have hmem : (⟨(i : Int), -b⟩ : Sl) ∈ msB pl bl a := slides_in hnb (by rw [hnext]; rfl) pl.length 0 [] (Nat.zero_le _) (by omega)
      have := List.mem_map_of_mem (f := nx pl bl a) hmem
      have e : nx pl bl a ⟨(i : Int), -b⟩ = c := by unfold nx; rw [hnext]; rfl
      rw [e] at this
      exact this
    · rw [if_neg h2] at hn
      cases hn
  · rw [if_neg h1] at hn
    cases hn
theorem toL_tx {a b : Stt} : (tx a).toList = (tx b).toList ↔ a = b := by
  rw [Go.Lib.toList_data, Go.Lib.toList_data, tx_data, tx_data]
/-- A state with a slide nearer. -/
theorem down {pl : List Int} {bl : List Blk} (hg : goodB pl bl = true) {b : Stt} (hb : okS pl bl b) {a : Stt} {n : Nat} (ha : (foundB pl bl b).far a = some (n + 1)) : ∃ (i : Nat) (hi : i < (msB pl bl a).length), (foundB pl bl b).far (nx pl bl a (msB pl bl a)[i]) = some n := by
  obtain ⟨hI, hG⟩ := found_good (setup hg) hb
  have hI : Inv (stepB pl bl) b (foundB pl bl b) (foundB pl bl b).q.length := hI
  have hG : GoodS (okS pl bl) (foundB pl bl b) := hG
  have hF := hI.final
  have hp := hF.path a (n + 1) ha
  cases hp with
  | @snoc _ c _ hc hac =>
    obtain ⟨m, hm, hmn⟩ := hF.least c n hc
    obtain ⟨m2, hm2, hle⟩ := hF.least a (m + 1) (.snoc (hF.path c m hm) hac)
    rw [ha] at hm2
    have hmn2 : m = n := by have := Option.some.inj hm2; omega
    subst hmn2
    have hoc := hG.ok c ((hF.iff c).1 (by rw [hm]; rfl))
    have hca := stepB_back hg hoc hac
    obtain ⟨k, hk1, rfl⟩ := List.mem_map.1 hca
    obtain ⟨i, hi, e⟩ := List.getElem_of_mem hk1
    exact ⟨i, hi, by rw [e]; exact hm⟩
theorem near {pl : List Int} {bl : List Blk} (hg : goodB pl bl = true) {b : Stt} (hb : okS pl bl b) {a t : Stt} {n : Nat} (ha : (foundB pl bl b).far a = some n) (ht : t ∈ stepB pl bl a) : ∃ v, (foundB pl bl b).far t = some v := by
  have hF : Final (stepB pl bl) b (foundB pl bl b) := (found_good (setup hg) hb).1.final
  obtain ⟨m, hm, _⟩ := hF.least t (n + 1) (.snoc (hF.path a n ha) ht)
  exact ⟨m, hm⟩
theorem inner {pl : List Int} {bl : List Blk} (hg : goodB pl bl = true) {b : Stt} (hb : okS pl bl b) {F : List Int} (hFr : FarR pl F (foundB pl bl b)) {a : Stt} (hoa : okS pl bl a) {n : Nat} (hn : n ≤ 2000) (ha : (foundB pl bl b).far a = some (n + 1)) (x : List Sl) (hx : x.length ≤ 2000) :
    ∀ d j, j + d = (msB pl bl a).length → (∃ (i : Nat) (hi : i < (msB pl bl a).length), j ≤ i ∧ (foundB pl bl b).far (nx pl bl a (msB pl bl a)[i]) = some n) →
    ∃ m t, okS pl bl t ∧ (foundB pl bl b).far t = some n ∧
      (∀ R, Ev (fun k => spec_FirstSlides.l0 k (tx t) F (n : Int) (x ++ [m]) pl bl) R → Ev (fun k => spec_FirstSlides.l1 k (tx a) F ((n + 1 : Nat) : Int) x (msB pl bl a) ((msB pl bl a).length : Int) (j : Int) pl bl) R) ∧
      (∀ R, Ev (fun k => impl_FirstSlides.l0 pl bl (fB (foundB pl bl b)) (tx b) k (tx t) (x ++ [m])) R → Ev (fun k => impl_FirstSlides.l1 pl bl (fB (foundB pl bl b)) (tx b) k (tx a) x (msB pl bl a) (j : Int)) R) := by
  have hml := ms_len hg a
  intro d
  induction d with
  | zero =>
    intro j hj hw
    obtain ⟨i, hi, hji, _⟩ := hw
    omega
  | succ d ih =>
    intro j hj hw
    have hjl : j < (msB pl bl a).length := by omega
    obtain ⟨m, hm⟩ : ∃ m, (msB pl bl a)[j] = m := ⟨_, rfl⟩
    have hmm : m ∈ msB pl bl a := hm ▸ List.getElem_mem hjl
    have hnx := ms_some hmm
    have hms : nx pl bl a m ∈ stepB pl bl a := List.mem_map_of_mem hmm
    obtain ⟨t, ht⟩ : ∃ t, nx pl bl a m = t := ⟨_, rfl⟩
    rw [ht] at hnx hms
    have hot := next_ok hnx
    obtain ⟨r, hr, _, hr3⟩ := boPut pl bl a m.f0 m.f1 hg hoa.1
    obtain ⟨u, hu, _, hu3⟩ := slid pl bl a m.f0 m.f1 hg hoa.1
    have hr1 := hr3 t hnx
    have hu1 := hu3 t hnx
    obtain ⟨v, hv⟩ := near hg hb ha hms
    have hnt : ((numB pl t : Nat) : Int) < (F.length : Int) := by rw [hFr.1]; exact Int.ofNat_lt.2 (numB_lt hg hot.1)
    have hrT : rd F ((numB pl t : Nat) : Int) = (v : Int) := by have := hFr.2 t hot.1; rw [hv] at this; exact this
    have hw1 : wrap64 (((n + 1 : Nat) : Int) - 1) = (n : Int) := by rw [w64 (by omega) (by omega)]; omega
    have hfT : (fB (foundB pl bl b) (tx t)).getD 0 = (v : Int) := by rw [fB_tx, hv]; rfl
    have hfA : (fB (foundB pl bl b) (tx a)).getD 0 = ((n + 1 : Nat) : Int) := by rw [fB_tx, ha]; rfl
    have hJ : (j : Int) < ((msB pl bl a).length : Int) := Int.ofNat_lt.2 hjl
    have hsj : wrap64 ((j : Int) + 1) = ((j + 1 : Nat) : Int) := succ64 (by omega)
    have hsz : (tx a).size ≤ maxLen ∧ (tx t).size ≤ maxLen ∧ x.length < 8796093022208 := ⟨ok_small hg hoa, ok_small hg hot, Nat.lt_of_le_of_lt hx (by decide)⟩
    have hx2 : x.length < 8796093022208 := hsz.2.2
    obtain ⟨K1, g1⟩ := hr
    obtain ⟨K2, g2⟩ := boNumber pl bl t hg hot.1
    have g1 : ∀ k, K1 ≤ k → spec_boPut.f k pl bl (tx a) m.f0 m.f1 = some r := g1
    have g2 : ∀ k, K2 ≤ k → spec_boNumber.f k pl bl (tx t) = some ((numB pl t : Nat) : Int) := g2
    by_cases hc : v = n
    · refine ⟨m, t, hot, by rw [hv, hc], fun R h => ?_, fun R h => ?_⟩
      · obtain ⟨K3, g3⟩ := h
        refine ⟨max K1 (max K2 K3) + 1, fun N hN => ?_⟩
        obtain ⟨k, rfl, k1, k2, k3⟩ := max3 hN
        simp only [spec_FirstSlides.l1]
        rw [if_pos hJ, if_pos (Int.natCast_nonneg _), if_pos hJ, rdSl_get hjl, hm, g1 k k1, obind, hr1, g2 k k2, obind, if_pos (Int.natCast_nonneg _), if_pos hnt, hrT, hw1, if_pos (by rw [hc]), if_pos hx2]
        exact g3 k k3
      · refine ev_num hu h (fun k hk => ?_)
        simp only [impl_FirstSlides.l1]
        rw [if_pos hJ, if_pos (Int.natCast_nonneg _), rdSl_get hjl, hm, hk, obind, hu1, if_pos hsz, hfT, hfA, hw1, if_pos (by rw [hc])]
    · have hne : ¬ ((v : Int) = (n : Int)) := fun h => hc (Int.ofNat.inj h)
      obtain ⟨m', t', h0, h1, h2, h3⟩ := ih (j + 1) (ar_j hj) (by
        obtain ⟨i, hi, hji, hfi⟩ := hw
        refine ⟨i, hi, ?_, hfi⟩
        by_cases e : i = j
        · subst e
          rw [hm, ht, hv] at hfi
          exact absurd (Option.some.inj hfi) hc
        · exact Nat.lt_of_le_of_ne hji (fun h => e h.symm))
      refine ⟨m', t', h0, h1, fun R h => ?_, fun R h => ?_⟩
      · obtain ⟨K3, g3⟩ := h2 R h
        refine ⟨max K1 (max K2 K3) + 1, fun N hN => ?_⟩
        obtain ⟨k, rfl, k1, k2, k3⟩ := max3 hN
        simp only [spec_FirstSlides.l1]
        rw [if_pos hJ, if_pos (Int.natCast_nonneg _), if_pos hJ, rdSl_get hjl, hm, g1 k k1, obind, hr1, g2 k k2, obind, if_pos (Int.natCast_nonneg _), if_pos hnt, hrT, hw1, if_neg hne, hsj]
        exact g3 k k3
      · refine ev_num hu (h3 R h) (fun k hk => ?_)
        simp only [impl_FirstSlides.l1]
        rw [if_pos hJ, if_pos (Int.natCast_nonneg _), rdSl_get hjl, hm, hk, obind, hu1, if_pos hsz, hfT, hfA, hw1, if_neg hne, hsj]
theorem outer {pl : List Int} {bl : List Blk} (hg : goodB pl bl = true) {b : Stt} (hb : okS pl bl b) {F : List Int} (hFr : FarR pl F (foundB pl bl b)) : ∀ n (a : Stt) (x : List Sl), okS pl bl a → (foundB pl bl b).far a = some n → x.length + n ≤ 2000 →
    ∃ R : List Sl × Bool, R.1.length ≤ 2000 ∧ Ev (fun k => spec_FirstSlides.l0 k (tx a) F (n : Int) x pl bl) R ∧ Ev (fun k => impl_FirstSlides.l0 pl bl (fB (foundB pl bl b)) (tx b) k (tx a) x) R := by
  have hI : Inv (stepB pl bl) b (foundB pl bl b) (foundB pl bl b).q.length := (found_good (setup hg) hb).1
  intro n
  induction n with
  | zero =>
    intro a x hoa ha hx
    have hab : a = b := by
      have := hI.path a 0 ha
      cases this
      rfl
    subst hab
    refine ⟨(x, true), by omega, Ev.step (f := fun _ => some (x, true)) (fun k => ?_) (Ev.now _), Ev.step (f := fun _ => some (x, true)) (fun k => ?_) (Ev.now _)⟩
    · simp only [spec_FirstSlides.l0]
      rw [if_neg (by decide)]
    · simp only [impl_FirstSlides.l0]
      rw [if_pos trivial]
  | succ n ih =>
    intro a x hoa ha hx
    have hne : ¬ ((tx a).toList = (tx b).toList) := fun h => by
      rw [toL_tx] at h
      rw [h, hI.zero] at ha
      cases ha
    obtain ⟨i, hi, hfi⟩ := down hg hb ha
    obtain ⟨m, t, hot, hm, e1, e2⟩ := inner hg hb hFr hoa (by omega) ha x (by omega) (msB pl bl a).length 0 (Nat.zero_add _) ⟨i, hi, Nat.zero_le _, hfi⟩
    obtain ⟨R, hR, h1, h2⟩ := ih t (x ++ [m]) hot hm (by rw [List.length_append, List.length_singleton]; omega)
    refine ⟨R, hR, ?_, ?_⟩
    · refine ev_num (boSlides hg hoa.1) (e1 R h1) (fun k hk2 => ?_)
      simp only [spec_FirstSlides.l0]
      rw [if_pos (show ((n + 1 : Nat) : Int) > 0 by omega), hk2, obind]
      rfl
    · refine ev_num (slides hg hoa.1) (e2 R h2) (fun k hk2 => ?_)
      simp only [impl_FirstSlides.l0]
      rw [if_neg hne, hk2, obind]
      rfl
theorem both_first (pl : List Int) (bl : List Blk) (s t : Stt) (hl : pl.length ≤ 1048576) (hb : bl.length ≤ 1048576) : ∃ R : List Sl × Bool, R.1.length ≤ 2000 ∧ Ev (fun k => spec_FirstSlides.f k pl bl (tx s) (tx t)) R ∧ Ev (fun k => impl_FirstSlides.f k pl bl (tx s) (tx t)) R := by
  have h1 := boTwo pl bl s t hl hb
  have h2 := good_two pl bl s t hl hb
  cases ha : (askedB pl bl s && askedB pl bl t) with
  | false =>
    rw [ha] at h1 h2
    exact ⟨([], false), Nat.zero_le _, by unfold spec_FirstSlides.f; exact Ev.bind h1 (Ev.congr (fun k => if_neg (by simp)) (Ev.now _)), by unfold impl_FirstSlides.f; exact Ev.bind h2 (Ev.congr (fun k => if_neg (by simp)) (Ev.now _))⟩
  | true =>
    rw [ha] at h1 h2
    rw [Bool.and_eq_true] at ha
    obtain ⟨hg, hs⟩ := asked_parts ha.1
    obtain ⟨_, ht⟩ := asked_parts ha.2
    obtain ⟨F, hF, h⟩ := boFar hg ht
    obtain ⟨hp1, hp2⟩ := prodB_le hg
    obtain ⟨hI, hG⟩ := found_good (setup hg) ht
    have hI : Inv (stepB pl bl) t (foundB pl bl t) (foundB pl bl t).q.length := hI
    have hG : GoodS (okS pl bl) (foundB pl bl t) := hG
    have hlen := hG.len (setup hg) hI.nodup
    have hnt : ((numB pl s : Nat) : Int) < (F.length : Int) := by rw [hF.1]; exact Int.ofNat_lt.2 (numB_lt hg hs.1)
    have hrF : rd F ((numB pl s : Nat) : Int) = fz ((foundB pl bl t).far s) := hF.2 s hs.1
    have hsome : (fB (foundB pl bl t) (tx s)).isSome = ((foundB pl bl t).far s).isSome := by rw [fB_tx]; cases (foundB pl bl t).far s <;> rfl
    have pre1 : ∀ R, Ev (fun k => if fz ((foundB pl bl t).far s) < 0 then some (([] : List Sl), false) else spec_FirstSlides.l0 k (tx s) F (fz ((foundB pl bl t).far s)) ([] : List Sl) pl bl) R → Ev (fun k => spec_FirstSlides.f k pl bl (tx s) (tx t)) R := fun R hR => by
      unfold spec_FirstSlides.f
      refine Ev.bind h1 (Ev.congr (fun k => if_pos rfl) (Ev.bind h (Ev.bind (boNumber pl bl s hg hs.1) ?_)))
      refine Ev.congr (fun k => ?_) hR
      rw [if_pos (Int.natCast_nonneg _), if_pos hnt, hrF]
    have pre2 : ∀ R, Ev (fun k => if (fB (foundB pl bl t) (tx s)).isSome = true then impl_FirstSlides.l0 pl bl (fB (foundB pl bl t)) (tx t) k (tx s) [] else some ([], false)) R → Ev (fun k => impl_FirstSlides.f k pl bl (tx s) (tx t)) R := fun R hR => by
      unfold impl_FirstSlides.f
      exact Ev.bind h2 (Ev.congr (fun k => by rw [if_pos rfl, if_pos ⟨ok_small hg hs, ok_small hg ht⟩]) (Ev.bind (search_run hg t ht) hR))
    cases e : (foundB pl bl t).far s with
    | none =>
      refine ⟨([], false), Nat.zero_le _, pre1 _ (Ev.congr (fun k => if_pos (by rw [e]; decide)) (Ev.now _)), pre2 _ (Ev.congr (fun k => if_neg (by rw [hsome, e]; simp)) (Ev.now _))⟩
    | some n =>
      have hbn := hG.bnd s n e
      obtain ⟨R, hR, g1, g2⟩ := outer hg ht hF n s [] hs e (by rw [List.length_nil]; omega)
      exact ⟨R, hR, pre1 _ (Ev.congr (fun k => by rw [e]; exact if_neg (show ¬ (n : Int) < 0 by omega)) g1), pre2 _ (Ev.congr (fun k => if_pos (by rw [hsome, e]; rfl)) g2)⟩
end Go.Proofs.Ytehhfcbhoaocdaa.Lem
namespace Go.Proofs.Ytehhfcbhoaocdaa.Pure
open Go.RowKit Go.Proofs.Ytehhfcbhoaocdaa.Lem Go.Proofs.Ytehhfcbhoaocdaa.PF Go.Proofs.YtehhfcbhoaocdaaW.PrintWords Go.Proofs.YtehhfcbhoaocdaaW.PrintLast Go.Proofs.YtehhfcbhoaocdaaW.PrintMore

theorem FnExactFirstSlides : laws_FnExactFirstSlides.Pure := by
  intro pl bl s u hl _ hb _ _
  obtain ⟨t, ht, hc⟩ := szBolts pl bl hl hb
  have key : Ev (fun k => laws_FnExactFirstSlides.f k pl bl s u) true := by
    unfold laws_FnExactFirstSlides.f
    by_cases d0 : (s.size : Int) > 1048576
    · exact Ev.congr (fun k => if_pos d0) (Ev.now _)
    refine Ev.congr (fun k => if_neg d0) ?_
    by_cases d1 : (u.size : Int) > 1048576
    · exact Ev.congr (fun k => if_pos d1) (Ev.now _)
    refine Ev.congr (fun k => if_neg d1) ?_
    refine Ev.congr (fun k => by rw [ht, obind]) ?_
    by_cases c1 : t < 0
    · exact Ev.congr (fun k => if_pos c1) (Ev.now _)
    have hh := hc.resolve_left c1
    have hb2 : (bl.map cp).length ≤ 1048576 := by rw [List.length_map]; exact hh.2
    obtain ⟨R, hn9, e1, e2⟩ := both_first pl (bl.map cp) s.data.toList u.data.toList hh.1 hb2
    rw [tx_self, tx_self] at e1 e2
    have hq := eqSlideS R.1 (by omega)
    obtain ⟨l', hm, hml, hmv⟩ := markSlideS R.1 (by omega)
    have hld := heldSlideS l' R.1.length hml (by omega) hmv
    obtain ⟨mr, h3, hm0⟩ := markBolts pl (bl.map cp) hh.1 hb2
    have hto := toBolts pl bl hh.1 hh.2
    refine Ev.congr (fun k => if_neg c1) (Ev.bind hto (Ev.bind e1 (Ev.bind hto (Ev.bind e2 (Ev.bind hq ?_)))))
    refine Ev.congr (fun k => by rw [if_pos rfl, bne_self_eq_false]) ?_
    refine Ev.step (fun k => by simp only [laws_FnExactFirstSlides.j0]; rw [if_neg Bool.false_ne_true]) ?_
    refine Ev.bind hto (Ev.bind (eqBolts pl (bl.map cp) hh.1 hb2) ?_)
    refine Ev.congr (fun k => if_pos rfl) (Ev.bind h3 ?_)
    refine Ev.congr (fun k => if_neg (show ¬ mr.1 < 0 by omega)) (Ev.bind hq ?_)
    refine Ev.congr (fun k => by rw [if_pos rfl, bne_self_eq_false]) ?_
    refine Ev.step (fun k => by simp only [laws_FnExactFirstSlides.j1]; rw [if_neg Bool.false_ne_true]) ?_
    refine Ev.bind hm (Ev.bind hld ?_)
    refine Ev.congr (fun k => by rw [if_neg (show ¬ ((1 + 2 * R.1.length : Nat) : Int) < 0 by omega), if_pos rfl]) ?_
    refine Ev.bind hto (Ev.bind e2 (Ev.bind hq ?_))
    refine Ev.congr (fun k => by rw [if_pos rfl, bne_self_eq_false]) ?_
    refine Ev.step (fun k => by simp only [laws_FnExactFirstSlides.j2]; rw [if_neg Bool.false_ne_true]) ?_
    refine Ev.bind hld ?_
    refine Ev.congr (fun k => by rw [if_neg (show ¬ ((1 + 2 * R.1.length : Nat) : Int) < 0 by omega), if_pos rfl]) (Ev.now _)
  obtain ⟨K, h⟩ := key
  exact ⟨K, h K (Nat.le_refl _)⟩
end Go.Proofs.Ytehhfcbhoaocdaa.Pure
