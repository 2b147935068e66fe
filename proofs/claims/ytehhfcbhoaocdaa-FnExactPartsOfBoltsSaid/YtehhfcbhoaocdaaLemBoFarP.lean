/-
  The reference's search over the states of bolts, and the program's: both find what the plain search finds.
-/
import Derived.Test.YtehhfcbhoaocdaaLemFoundP
import Derived.Test.YtehhfcbhoaocdaaLemSlidesP
namespace Go.Proofs.Ytehhfcbhoaocdaa.Lem
open Go.RowKit Go.Proofs.Ytehhfcbhoaocdaa.PP Go.Proofs.YtehhfcbhoaocdaaW.PrintWords Go.Proofs.YtehhfcbhoaocdaaW.PrintLast Go.Proofs.YtehhfcbhoaocdaaW.PrintMore Go.Proofs.Ytehhfcbhoaocdaa.Bfs
set_option linter.unusedVariables false
set_option linter.unusedSimpArgs false

theorem max3 {a b c n : Nat} (h : max a (max b c) + 1 ≤ n) : ∃ k, n = k + 1 ∧ a ≤ k ∧ b ≤ k ∧ c ≤ k := ⟨n - 1, by omega, by omega, by omega, by omega⟩
/-! ### Numbers of states -/
def numTo (pl : List Int) (s : Stt) : Nat → Nat
  | 0 => 0
  | i + 1 => numTo pl s i * (pl.getD i 0).toNat + (dg s i).toNat
def prodTo (pl : List Int) : Nat → Nat
  | 0 => 1
  | i + 1 => prodTo pl i * (pl.getD i 0).toNat
def numB (pl : List Int) (s : Stt) : Nat := numTo pl s pl.length
def prodB (pl : List Int) : Nat := prodTo pl pl.length
theorem prod_le {pl : List Int} {bl : List Blk} (hg : goodB pl bl = true) : ∀ i, i ≤ pl.length → prodTo pl i ≤ 5 ^ i
  | 0, _ => Nat.le_refl _
  | i + 1, h => by
    have h1 := prod_le hg i (by omega)
    have h2 := pl_at hg (i := i) (by omega)
    have h3 : (pl.getD i 0).toNat ≤ 5 := by omega
    exact Nat.mul_le_mul h1 h3
theorem pow5 : ∀ i, i ≤ 6 → 5 ^ i ≤ 15625
  | 0, _ => by decide
  | 1, _ => by decide
  | 2, _ => by decide
  | 3, _ => by decide
  | 4, _ => by decide
  | 5, _ => by decide
  | 6, _ => by decide
  | n + 7, h => by omega
theorem prod_small {pl : List Int} {bl : List Blk} (hg : goodB pl bl = true) (i : Nat) (hi : i ≤ pl.length) : prodTo pl i ≤ 15625 :=
  Nat.le_trans (prod_le hg i hi) (pow5 i (Nat.le_trans hi (good_parts hg).1.2))
theorem num_lt {pl : List Int} {bl : List Blk} {s : Stt} (hg : goodB pl bl = true) (hs : isStB pl s = true) : ∀ i, i ≤ pl.length → numTo pl s i < prodTo pl i
  | 0, _ => Nat.lt_succ_self 0
  | i + 1, h => by
    have h1 := num_lt hg hs i (by omega)
    have h2 := pl_at hg (i := i) (by omega)
    have h3 := (st_parts hs).2 i (by omega)
    have h4 : (dg s i).toNat < (pl.getD i 0).toNat := by omega
    show numTo pl s i * (pl.getD i 0).toNat + (dg s i).toNat < prodTo pl i * (pl.getD i 0).toNat
    have h5 : (numTo pl s i + 1) * (pl.getD i 0).toNat ≤ prodTo pl i * (pl.getD i 0).toNat := Nat.mul_le_mul_right _ h1
    rw [Nat.succ_mul] at h5
    omega
theorem num_inj {pl : List Int} {bl : List Blk} {s t : Stt} (hg : goodB pl bl = true) (hs : isStB pl s = true) (ht : isStB pl t = true) : ∀ i, i ≤ pl.length → numTo pl s i = numTo pl t i → ∀ j, j < i → dg s j = dg t j
  | 0, _, _, j, hj => absurd hj (Nat.not_lt_zero j)
  | i + 1, h, e, j, hj => by
    have h2 := pl_at hg (i := i) (by omega)
    have h3 := (st_parts hs).2 i (by omega)
    have h4 := (st_parts ht).2 i (by omega)
    have l1 : (dg s i).toNat < (pl.getD i 0).toNat := by omega
    have l2 : (dg t i).toNat < (pl.getD i 0).toNat := by omega
    have e' : numTo pl s i * (pl.getD i 0).toNat + (dg s i).toNat = numTo pl t i * (pl.getD i 0).toNat + (dg t i).toNat := e
    have m1 : (numTo pl s i * (pl.getD i 0).toNat + (dg s i).toNat) % (pl.getD i 0).toNat = (dg s i).toNat := by rw [Nat.mul_comm, Nat.mul_add_mod, Nat.mod_eq_of_lt l1]
    have m2 : (numTo pl t i * (pl.getD i 0).toNat + (dg t i).toNat) % (pl.getD i 0).toNat = (dg t i).toNat := by rw [Nat.mul_comm, Nat.mul_add_mod, Nat.mod_eq_of_lt l2]
    have ed : (dg s i).toNat = (dg t i).toNat := by rw [← m1, ← m2, e']
    have en : numTo pl s i = numTo pl t i := by
      rw [ed] at e'
      exact Nat.eq_of_mul_eq_mul_right (by omega) (Nat.add_right_cancel e')
    by_cases hji : j = i
    · subst hji; omega
    · exact num_inj hg hs ht i (by omega) en j (by omega)
theorem dg_ext {pl : List Int} {s t : Stt} (hs : isStB pl s = true) (ht : isStB pl t = true) (h : ∀ j, j < pl.length → dg s j = dg t j) : s = t := by
  have l1 := (st_parts hs).1
  have l2 := (st_parts ht).1
  apply List.ext_getElem (by omega)
  intro i h1 h2
  have e := h i (by omega)
  unfold dg at e
  have e2 : (s.getD i 0).toNat = (t.getD i 0).toNat := by omega
  rw [List.getD_eq_getElem?_getD, List.getElem?_eq_getElem h1, List.getD_eq_getElem?_getD, List.getElem?_eq_getElem h2] at e2
  exact UInt8.toNat_inj.1 e2
theorem prodW_eq {pl : List Int} {bl : List Blk} (hg : goodB pl bl = true) : ∀ d i, i + d = pl.length → prodW (prodTo pl i : Int) (pl.drop i) = (prodB pl : Int)
  | 0, i, h => by
    obtain rfl : i = pl.length := by omega
    rw [List.drop_eq_nil_of_le (Nat.le_refl _)]
    rfl
  | d + 1, i, h => by
    have hi : i < pl.length := by omega
    have h2 := pl_at hg hi
    have h3 := prod_small hg (i + 1) (by omega)
    have e : ((prodTo pl i : Nat) : Int) * pl[i] = ((prodTo pl (i + 1) : Nat) : Int) := by
      show _ = ((prodTo pl i * (pl.getD i 0).toNat : Nat) : Int)
      rw [Int.natCast_mul, Int.toNat_of_nonneg (by omega)]
      simp [List.getD, hi]
    rw [List.drop_eq_getElem_cons hi]
    show prodW (wrap64 ((prodTo pl i : Int) * pl[i])) (pl.drop (i + 1)) = _
    rw [e, w64 (by omega) (by omega)]
    exact prodW_eq hg d (i + 1) (by omega)
theorem prodB_le {pl : List Int} {bl : List Blk} (hg : goodB pl bl = true) : prodB pl ≤ 1000 ∧ prodW 1 pl = (prodB pl : Int) := by
  have h := prodW_eq hg pl.length 0 (Nat.zero_add _)
  rw [List.drop_zero] at h
  have h2 := (good_parts hg).2.2.2.1
  have h3 : prodW 1 pl = (prodB pl : Int) := h
  exact ⟨by rw [h3] at h2; omega, h3⟩
theorem number_l0 {pl : List Int} {bl : List Blk} {s : Stt} (hg : goodB pl bl = true) (hs : isStB pl s = true) : ∀ d i, i + d = pl.length → Ev (fun k => spec_boNumber.l0 k (tx s) (numTo pl s i : Int) pl (pl.length : Int) (i : Int)) ((numB pl s : Nat) : Int) := by
  obtain ⟨⟨g1, g6⟩, _⟩ := good_parts hg
  obtain ⟨hl, hd⟩ := st_parts hs
  intro d
  induction d with
  | zero =>
    intro i h
    obtain rfl : i = pl.length := by omega
    refine Ev.step (f := fun _ => some ((numB pl s : Nat) : Int)) (fun k => ?_) (Ev.now _)
    simp only [spec_boNumber.l0]
    rw [if_neg (Int.lt_irrefl _)]
    rfl
  | succ d ih =>
    intro i h
    have hi : i < pl.length := by omega
    have h1 := num_lt hg hs i (by omega)
    have h2 := pl_at hg hi
    have h3 := prod_small hg i (by omega)
    have h4 := num_lt hg hs (i + 1) (by omega)
    have h5 := prod_small hg (i + 1) (by omega)
    have h6 := hd i hi
    have e1 : ((numTo pl s i : Nat) : Int) * pl.getD i 0 = ((numTo pl s i * (pl.getD i 0).toNat : Nat) : Int) := by
      rw [Int.natCast_mul, Int.toNat_of_nonneg (by omega)]
    have e2 : numTo pl s (i + 1) = numTo pl s i * (pl.getD i 0).toNat + (dg s i).toNat := rfl
    refine Ev.step (fun k => ?_) (ih (i + 1) (by omega))
    simp only [spec_boNumber.l0]
    rw [if_pos (Int.ofNat_lt.2 hi), if_pos (Int.natCast_nonneg _), if_pos (Int.ofNat_lt.2 hi), if_pos (by rw [tx_size, hl]; exact Int.ofNat_lt.2 hi), rdD, e1, bt_dg (by omega), show (dg s i + 48 - 48) % 256 = dg s i by omega, succ64 (by omega)]
    rw [w64 (n := ((numTo pl s i * (pl.getD i 0).toNat : Nat) : Int)) (by omega) (by omega)]
    have e3 : ((numTo pl s i * (pl.getD i 0).toNat : Nat) : Int) + dg s i = ((numTo pl s (i + 1) : Nat) : Int) := by
      rw [e2, Int.natCast_add, Int.toNat_of_nonneg h6.1]
    rw [e3, w64 (by omega) (by omega)]
theorem boNumber (pl : List Int) (bl : List Blk) (s : Stt) (hg : goodB pl bl = true) (hs : isStB pl s = true) : Ev (fun k => spec_boNumber.f k pl bl (tx s)) ((numB pl s : Nat) : Int) := number_l0 hg hs pl.length 0 (Nat.zero_add _)

/-! ### The moves -/
def okS (pl : List Int) (bl : List Blk) (s : Stt) : Prop := isStB pl s = true ∧ freeB bl s = true
def msB (pl : List Int) (bl : List Blk) (s : Stt) : List Sl := slidesL pl bl s pl.length 0 []
def nx (pl : List Int) (bl : List Blk) (s : Stt) (m : Sl) : Stt := (nextB pl bl s m.f0 m.f1).getD []
def stepB (pl : List Int) (bl : List Blk) (s : Stt) : List Stt := (msB pl bl s).map (nx pl bl s)
theorem slides_mem {pl : List Int} {bl : List Blk} {s : Stt} : ∀ d i acc, ∀ m ∈ slidesL pl bl s d i acc, m ∈ acc ∨ (nextB pl bl s m.f0 m.f1).isSome = true
  | 0, i, acc, m, h => Or.inl h
  | d + 1, i, acc, m, h => by
    have one : ∀ b, m ∈ slideAt pl bl s i b → (nextB pl bl s m.f0 m.f1).isSome = true := by
      intro b hm
      unfold slideAt at hm
      by_cases e : (nextB pl bl s (i : Int) b).isSome = true
      · rw [if_pos e] at hm
        simp at hm
        rw [hm]
        exact e
      · rw [if_neg e] at hm
        cases hm
    rcases slides_mem d (i + 1) _ m h with h | h
    · simp only [List.mem_append] at h
      rcases h with (h | h) | h
      · exact Or.inl h
      · exact Or.inr (one _ h)
      · exact Or.inr (one _ h)
    · exact Or.inr h
theorem ms_some {pl : List Int} {bl : List Blk} {s : Stt} {m : Sl} (h : m ∈ msB pl bl s) : nextB pl bl s m.f0 m.f1 = some (nx pl bl s m) := by
  rcases slides_mem _ _ _ m h with h | h
  · cases h
  · obtain ⟨o, ho⟩ := Option.isSome_iff_exists.1 h
    unfold nx
    rw [ho]
    rfl
theorem next_ok {pl : List Int} {bl : List Blk} {s o : Stt} {x b : Int} (h : nextB pl bl s x b = some o) : okS pl bl o := by
  unfold nextB at h
  split at h
  · split at h
    · rename_i h2
      rw [Bool.and_eq_true] at h2
      rw [← Option.some.inj h]
      exact h2
    · cases h
  · cases h
theorem ms_len {pl : List Int} {bl : List Blk} (hg : goodB pl bl = true) (s : Stt) : (msB pl bl s).length ≤ 12 := by
  have h := slidesL_len pl bl s pl.length 0 []
  have := (good_parts hg).1.2
  unfold msB
  simp only [List.length_nil, Nat.zero_add] at h
  omega
theorem step_len (pl : List Int) (bl : List Blk) (s : Stt) : (stepB pl bl s).length = (msB pl bl s).length := by unfold stepB; rw [List.length_map]
theorem step_get {pl : List Int} {bl : List Blk} {s : Stt} {j : Nat} (h : j < (msB pl bl s).length) (h2 : j < (stepB pl bl s).length) : (stepB pl bl s)[j] = nx pl bl s (msB pl bl s)[j] := List.getElem_map _
theorem setup {pl : List Int} {bl : List Blk} (hg : goodB pl bl = true) : Setup (stepB pl bl) (okS pl bl) (numB pl) (prodB pl) := by
  refine ⟨?_, ?_, ?_, ?_, ?_, ?_⟩
  · intro s _ t ht
    obtain ⟨m, hm, rfl⟩ := List.mem_map.1 ht
    exact next_ok (ms_some hm)
  · intro s hs
    exact num_lt hg hs.1 pl.length (Nat.le_refl _)
  · intro s t hs ht e
    exact dg_ext hs.1 ht.1 (num_inj hg hs.1 ht.1 pl.length (Nat.le_refl _) e)
  · intro s hs
    have h1 := (st_parts hs.1).1
    have h2 := (good_parts hg).1.2
    omega
  · intro s _
    rw [step_len]
    have := ms_len hg s
    omega
  · exact Nat.le_trans (prodB_le hg).1 (by decide)
theorem boSlides {pl : List Int} {bl : List Blk} {s : Stt} (hg : goodB pl bl = true) (hs : isStB pl s = true) : Ev (fun k => spec_boSlides.f k pl bl (tx s)) (msB pl bl s) :=
  spec_l0 hg hs pl.length 0 [] (Nat.zero_add _) (Nat.zero_le _)
theorem slides {pl : List Int} {bl : List Blk} {s : Stt} (hg : goodB pl bl = true) (hs : isStB pl s = true) : Ev (fun k => impl_Bolts_slides.f k pl bl (tx s)) (msB pl bl s) := by
  have hsl := (st_parts hs).1
  have h := impl_l0 hg hs s.length 0 [] (Nat.zero_add _) (Nat.zero_le _)
  unfold impl_Bolts_slides.f
  rw [tx_size]
  unfold msB
  rw [hsl] at h ⊢
  exact h
theorem search1_l0 {pl : List Int} {bl : List Blk} {s : Stt} (hg : goodB pl bl = true) (hs : isStB pl s = true) : ∀ d i (acc : List Stt), i + d = (msB pl bl s).length → acc.length = i →
    Ev (fun k => impl_Bolts_search_1.l0 pl bl (tx s) k (msB pl bl s) (acc.map tx) (i : Int)) ((acc ++ ((msB pl bl s).drop i).map (nx pl bl s)).map tx) := by
  intro d
  induction d with
  | zero =>
    intro i acc h ha
    rw [List.drop_eq_nil_of_le (by omega), List.map_nil, List.append_nil]
    refine Ev.step (f := fun _ => some (acc.map tx)) (fun k => ?_) (Ev.now _)
    simp only [impl_Bolts_search_1.l0]
    rw [if_neg (fun h => by have := Int.ofNat_lt.1 h; omega)]
  | succ d ih =>
    intro i acc h ha
    have hi : i < (msB pl bl s).length := by omega
    have hl := ms_len hg s
    obtain ⟨m, hm⟩ : ∃ m, (msB pl bl s)[i] = m := ⟨_, rfl⟩
    have hmm : m ∈ msB pl bl s := hm ▸ List.getElem_mem hi
    have hn := ms_some hmm
    obtain ⟨t, ht, h2, h3⟩ := slid pl bl s m.f0 m.f1 hg hs
    have ht1 := h3 _ hn
    have e := ih (i + 1) (acc ++ [nx pl bl s m]) (by omega) (by rw [List.length_append, ha]; rfl)
    have e2 : (acc ++ ((msB pl bl s).drop i).map (nx pl bl s)) = (acc ++ [nx pl bl s m]) ++ ((msB pl bl s).drop (i + 1)).map (nx pl bl s) := by
      rw [List.drop_eq_getElem_cons hi, hm, List.map_cons, List.append_assoc]
      rfl
    rw [e2]
    refine ev_num ht e (fun k hk => ?_)
    simp only [impl_Bolts_search_1.l0]
    rw [if_pos (Int.ofNat_lt.2 hi), if_pos (Int.natCast_nonneg _), rdSl_get hi, hm, hk, obind, if_pos (by rw [List.length_map]; omega), ht1, succ64 (by omega), List.map_append]
    rfl
theorem search1 {pl : List Int} {bl : List Blk} (hg : goodB pl bl = true) (s : Stt) (hs : okS pl bl s) : Ev (fun k => impl_Bolts_search_1.f pl bl k (tx s)) ((stepB pl bl s).map tx) := by
  unfold impl_Bolts_search_1.f
  refine Ev.bind (slides hg hs.1) ?_
  have h := search1_l0 hg hs.1 (msB pl bl s).length 0 [] (Nat.zero_add _) rfl
  rw [List.drop_zero, List.nil_append] at h
  exact h
def foundB (pl : List Int) (bl : List Blk) (s : Stt) : St Stt := found (stepB pl bl) (prodB pl) s
/-- What the program's search finds. -/
theorem search_run {pl : List Int} {bl : List Blk} (hg : goodB pl bl = true) (s : Stt) (hs : okS pl bl s) : Ev (fun k => impl_Bolts_search.f k pl bl (tx s)) ((foundB pl bl s).q.map tx, fB (foundB pl bl s), gB (foundB pl bl s)) := by
  unfold impl_Bolts_search.f
  exact searched_run (setup hg) (fun k => impl_Bolts_search_1.f pl bl k) (search1 hg) s hs

/-! ### The reference's -/
def fz : Option Nat → Int
  | none => -1
  | some n => (n : Int)
def FarR (pl : List Int) (F : List Int) (st : St Stt) : Prop := F.length = prodB pl ∧ ∀ s, isStB pl s = true → F.getD (numB pl s) 0 = fz (st.far s)
theorem numB_inj {pl : List Int} {bl : List Blk} {s t : Stt} (hg : goodB pl bl = true) (hs : isStB pl s = true) (ht : isStB pl t = true) (h : numB pl s = numB pl t) : s = t := dg_ext hs ht (num_inj hg hs ht pl.length (Nat.le_refl _) h)
theorem numB_lt {pl : List Int} {bl : List Blk} {s : Stt} (hg : goodB pl bl = true) (hs : isStB pl s = true) : numB pl s < prodB pl := num_lt hg hs pl.length (Nat.le_refl _)
theorem getD_set {l : List Int} {i j : Nat} {v : Int} (hi : i < l.length) : (l.set i v).getD j 0 = if i = j then v else l.getD j 0 := by
  rw [List.getD_eq_getElem?_getD, List.getElem?_set, List.getD_eq_getElem?_getD]
  by_cases e : i = j
  · rw [if_pos e, if_pos e, if_pos hi]; rfl
  · rw [if_neg e, if_neg e]
theorem FarR.set {pl : List Int} {bl : List Blk} (hg : goodB pl bl = true) {F : List Int} {st : St Stt} (h : FarR pl F st) {t : Stt} (ht : isStB pl t = true) (n : Nat) (q : List Stt) (w : Stt → Int) : FarR pl (F.set (numB pl t) (n : Int)) ⟨q, Bfs.upd st.far t (some n), w⟩ := by
  refine ⟨by rw [List.length_set]; exact h.1, fun s hs => ?_⟩
  rw [getD_set (by rw [h.1]; exact numB_lt hg ht)]
  simp only [Bfs.upd]
  by_cases e : s = t
  · rw [if_pos e, if_pos (by rw [e])]
    rfl
  · rw [if_neg e, if_neg (fun h => e (numB_inj hg hs ht h.symm))]
    exact h.2 s hs
theorem fz_neg {o : Option Nat} : fz o < 0 ↔ o = none := by
  cases o with
  | none => simp [fz]
  | some n => simp [fz]
theorem far_l2 {pl : List Int} {bl : List Blk} (hg : goodB pl bl = true) (s0 : Stt) (i : Nat) (u : Stt) (du : Nat) : ∀ (d j : Nat) (st : St Stt) (p : List Stt) (F : List Int),
    j + d = (msB pl bl u).length → InvIn (stepB pl bl) s0 st i u p → GoodS (okS pl bl) st → FarR pl F st → Bfs.d st u = du →
    ∃ F', FarR pl F' (((stepB pl bl u).drop j).foldl (relax addC u) st) ∧ ∀ R, Ev (fun k => spec_boFar.l1 k F' ((((stepB pl bl u).drop j).foldl (relax addC u) st).q.map tx) ((i + 1 : Nat) : Int) pl bl) R →
      Ev (fun k => spec_boFar.l2 k F (st.q.map tx) (i : Int) (du : Int) (msB pl bl u) ((msB pl bl u).length : Int) (j : Int) pl bl) R := by
  intro d
  induction d with
  | zero =>
    intro j st p F hj I G hF hdu
    have hil : i < 1001 := by have h1 := G.len (setup hg) I.nodup; have h2 := I.lt; have h3 := (prodB_le hg).1; omega
    have hd0 : (stepB pl bl u).drop j = [] := List.drop_eq_nil_of_le (by rw [step_len]; omega)
    rw [hd0]
    refine ⟨F, hF, fun R h => ?_⟩
    refine Ev.step (fun k => ?_) h
    simp only [spec_boFar.l2]
    rw [if_neg (show ¬ (j : Int) < ((msB pl bl u).length : Int) from fun h => by have := Int.ofNat_lt.1 h; omega), succ64 (by omega)]
    rfl
  | succ d ih =>
    intro j st p F hj I G hF hdu
    have hjl : j < (msB pl bl u).length := by omega
    obtain ⟨m, hm⟩ : ∃ m, (msB pl bl u)[j] = m := ⟨_, rfl⟩
    have hmm : m ∈ msB pl bl u := hm ▸ List.getElem_mem hjl
    have hn := ms_some hmm
    obtain ⟨t, ht⟩ : ∃ t, nx pl bl u m = t := ⟨_, rfl⟩
    rw [ht] at hn
    have hdr : (stepB pl bl u).drop j = t :: (stepB pl bl u).drop (j + 1) := by
      have hjs : j < (stepB pl bl u).length := by rw [step_len]; exact hjl
      rw [List.drop_eq_getElem_cons hjs, step_get hjl hjs, hm, ht]
    have htm : t ∈ stepB pl bl u := ht ▸ List.mem_map_of_mem hmm
    have huq : u ∈ st.q := List.mem_of_getElem? I.at_
    have hou := G.ok u huq
    have hot := next_ok hn
    have huf := (I.iff u).2 huq
    have hlen := G.len (setup hg) I.nodup
    have hp1 := (prodB_le hg).1
    have hil : i < 1001 := by have h2 := I.lt; omega
    have hqlt : (i : Int) < ((st.q.map tx).length : Int) := by rw [List.length_map]; exact Int.ofNat_lt.2 I.lt
    have hq43 : (st.q.map tx).length < 8796093022208 := by rw [List.length_map]; omega
    have hj62 : j < 4611686018427387904 := by have := ms_len hg u; omega
    have hdl := G.d huf
    have hdu62 : du < 4611686018427387904 := by rw [hdu] at hdl; omega
    have hqi : st.q[i]'I.lt = u := by have := I.at_; rw [List.getElem?_eq_getElem I.lt] at this; exact Option.some.inj this
    have hrd : rdOf ByteArray.empty (st.q.map tx) (i : Int) = tx u := by rw [rdM I.lt, hqi]
    obtain ⟨r, hr, hr2, hr3⟩ := boPut pl bl u m.f0 m.f1 hg hou.1
    have hr1 := hr3 _ hn
    have hnum := boNumber pl bl t hg hot.1
    have hnt : ((numB pl t : Nat) : Int) < (F.length : Int) := by rw [hF.1]; exact Int.ofNat_lt.2 (numB_lt hg hot.1)
    have hsj : wrap64 ((j : Int) + 1) = ((j + 1 : Nat) : Int) := succ64 hj62
    have hsd : wrap64 ((du : Int) + 1) = ((du + 1 : Nat) : Int) := succ64 hdu62
    have hrF : rd F ((numB pl t : Nat) : Int) = fz (st.far t) := hF.2 t hot.1
    have I2 := I.relaxed addC htm
    have G2 := G.relaxed addC huf hot
    have hJ : (j : Int) < ((msB pl bl u).length : Int) := Int.ofNat_lt.2 hjl
    rw [hdr]
    simp only [List.foldl_cons]
    obtain ⟨K1, g1⟩ := hr
    obtain ⟨K2, g2⟩ := hnum
    have g1 : ∀ k, K1 ≤ k → spec_boPut.f k pl bl (tx u) m.f0 m.f1 = some r := g1
    have g2 : ∀ k, K2 ≤ k → spec_boNumber.f k pl bl (tx t) = some ((numB pl t : Nat) : Int) := g2
    cases hft : st.far t with
    | none =>
      have hut : u ≠ t := fun e => by rw [e, hft] at huf; cases huf
      have hdu2 : Bfs.d (relax addC u st t) u = du := by rw [relax_new hft hut, d_upd_ne hut]; exact hdu
      rw [relax_new hft hut] at I2 G2 hdu2 ⊢
      have hF2 := FarR.set hg hF hot.1 (Bfs.d st u + 1) (st.q ++ [t]) (Bfs.upd st.ways t (addC (st.ways t) (st.ways u)))
      obtain ⟨F', hF', K⟩ := ih (j + 1) _ _ _ (ar_j hj) I2 G2 hF2 hdu2
      refine ⟨F', hF', fun R h => ?_⟩
      obtain ⟨K3, g3⟩ := K R h
      refine ⟨max K1 (max K2 K3) + 1, fun n hn => ?_⟩
      obtain ⟨k, rfl, k1, k2, k3⟩ := max3 hn
      simp only [spec_boFar.l2]
      rw [if_pos hJ, if_pos (Int.natCast_nonneg _), if_pos hJ, if_pos (Int.natCast_nonneg _), if_pos hqlt, hrd, rdSl_get hjl, hm, g1 k k1, obind, hr1, g2 k k2, obind, if_pos (Int.natCast_nonneg _), if_pos hnt, hrF, hft, if_pos (by decide), if_pos hq43, hsd, hsj, Int.toNat_natCast]
      have e3 := g3 k k3
      rw [List.map_append, hdu] at e3
      exact e3
    | some v =>
      have hneg : ¬ fz (some v) < 0 := by rw [fz_neg]; simp
      have hF2 : FarR pl F (relax addC u st t) := ⟨hF.1, fun s hs => by rw [hF.2 s hs, (relax_q_far addC u st t).2, hft]; rfl⟩
      have hq2 : (relax addC u st t).q = st.q := by rw [(relax_q_far addC u st t).1, hft]; rfl
      have hdu2 : Bfs.d (relax addC u st t) u = du := by unfold Bfs.d; rw [(relax_q_far addC u st t).2, hft]; exact hdu
      obtain ⟨F', hF', K⟩ := ih (j + 1) _ _ _ (ar_j hj) I2 G2 hF2 hdu2
      refine ⟨F', hF', fun R h => ?_⟩
      obtain ⟨K3, g3⟩ := K R h
      refine ⟨max K1 (max K2 K3) + 1, fun n hn => ?_⟩
      obtain ⟨k, rfl, k1, k2, k3⟩ := max3 hn
      simp only [spec_boFar.l2]
      rw [if_pos hJ, if_pos (Int.natCast_nonneg _), if_pos hJ, if_pos (Int.natCast_nonneg _), if_pos hqlt, hrd, rdSl_get hjl, hm, g1 k k1, obind, hr1, g2 k k2, obind, if_pos (Int.natCast_nonneg _), if_pos hnt, hrF, hft, if_neg hneg, hsj]
      have e3 := g3 k k3
      rw [hq2] at e3
      exact e3
theorem far_l1 {pl : List Int} {bl : List Blk} (hg : goodB pl bl = true) (s0 : Stt) : ∀ (m i : Nat) (st : St Stt) (F : List Int), Inv (stepB pl bl) s0 st i → GoodS (okS pl bl) st → FarR pl F st → prodB pl ≤ i + m →
    ∃ F', FarR pl F' (run addC (stepB pl bl) m i st) ∧ Ev (fun k => spec_boFar.l1 k F (st.q.map tx) (i : Int) pl bl) (F', (run addC (stepB pl bl) m i st).q.map tx) := by
  intro m
  induction m with
  | zero =>
    intro i st F I G hF hN
    have h1 := G.len (setup hg) I.nodup
    refine ⟨F, hF, Ev.step (f := fun _ => some (F, st.q.map tx)) (fun k => ?_) (Ev.now _)⟩
    simp only [spec_boFar.l1]
    rw [List.length_map, if_neg (fun h => by have := Int.ofNat_lt.1 h; omega)]
  | succ m ih =>
    intro i st F I G hF hN
    by_cases hi : i < st.q.length
    · obtain ⟨u, hu⟩ : ∃ u, st.q[i] = u := ⟨_, rfl⟩
      have hin := I.enter hi
      rw [hu] at hin
      have hou : okS pl bl u := hu ▸ G.ok _ (List.getElem_mem hi)
      have huf := (I.iff u).2 (hu ▸ List.getElem_mem hi)
      have I2 := I.process addC hi
      rw [hu] at I2
      have G2 : GoodS (okS pl bl) (process addC (stepB pl bl) st u) := GoodS.foldl addC (stepB pl bl u) st [] hin G (fun t ht => ht) ((setup hg).next u hou)
      obtain ⟨F1, hF1, K⟩ := far_l2 hg s0 i u (Bfs.d st u) (msB pl bl u).length 0 st [] F (Nat.zero_add _) hin G hF rfl
      rw [List.drop_zero] at hF1 K
      obtain ⟨F', hF', e⟩ := ih (i + 1) _ F1 I2 G2 hF1 (by omega)
      have e2 := K _ e
      have hrun : run addC (stepB pl bl) (m + 1) i st = run addC (stepB pl bl) m (i + 1) (process addC (stepB pl bl) st u) := by
        conv => lhs; unfold run
        rw [dif_pos hi, hu]
      rw [hrun]
      refine ⟨F', hF', ?_⟩
      have hnu := boNumber pl bl u hg hou.1
      have hms := boSlides (pl := pl) (bl := bl) hg hou.1
      have hnt : ((numB pl u : Nat) : Int) < (F.length : Int) := by rw [hF.1]; exact Int.ofNat_lt.2 (numB_lt hg hou.1)
      have hrF : rd F ((numB pl u : Nat) : Int) = ((Bfs.d st u : Nat) : Int) := by
        have h := hF.2 u hou.1
        obtain ⟨v, hv⟩ := Option.isSome_iff_exists.1 huf
        rw [hv] at h
        have hd : Bfs.d st u = v := by simp [Bfs.d, hv]
        rw [hd]
        exact h
      obtain ⟨K1, g1⟩ := hnu
      obtain ⟨K2, g2⟩ := hms
      obtain ⟨K3, g3⟩ := e2
      have g1 : ∀ k, K1 ≤ k → spec_boNumber.f k pl bl (tx u) = some ((numB pl u : Nat) : Int) := g1
      have g2 : ∀ k, K2 ≤ k → spec_boSlides.f k pl bl (tx u) = some (msB pl bl u) := g2
      refine ⟨max K1 (max K2 K3) + 1, fun n hn => ?_⟩
      obtain ⟨k, rfl, k1, k2, k3⟩ := max3 hn
      simp only [spec_boFar.l1]
      rw [if_pos (show (i : Int) < ((st.q.map tx).length : Int) by rw [List.length_map]; exact Int.ofNat_lt.2 hi), if_pos (Int.natCast_nonneg _), rdM hi, hu, g1 k k1, obind, if_pos (Int.natCast_nonneg _), if_pos hnt, g2 k k2, obind, hrF]
      exact g3 k k3
    · have hrun : run addC (stepB pl bl) (m + 1) i st = st := by
        conv => lhs; unfold run
        rw [dif_neg hi]
      rw [hrun]
      refine ⟨F, hF, Ev.step (f := fun _ => some (F, st.q.map tx)) (fun k => ?_) (Ev.now _)⟩
      simp only [spec_boFar.l1]
      rw [List.length_map, if_neg (fun h => hi (Int.ofNat_lt.1 h))]
theorem far_l0 {pl : List Int} {bl : List Blk} (hg : goodB pl bl = true) {s : Stt} (hs : isStB pl s = true) (R : List Int × List ByteArray)
    (h : Ev (fun k => spec_boFar.l1 k ((List.replicate (prodB pl) (-1 : Int)).set (numB pl s) 0) [tx s] (0 : Int) pl bl) R) : ∀ (d i : Nat) (acc : List Int), i + d = prodB pl → acc.length = prodB pl → acc.take i = List.replicate i (-1) →
    Ev (fun k => spec_boFar.l0 k (tx s) acc (prodB pl : Int) (i : Int) pl bl) R := by
  have hp := (prodB_le hg).1
  intro d
  induction d with
  | zero =>
    intro i acc hi hl ht
    obtain rfl : i = prodB pl := by omega
    rw [List.take_of_length_le (by omega)] at ht
    subst ht
    refine ev_num (boNumber pl bl s hg hs) h (fun k hk => ?_)
    simp only [spec_boFar.l0]
    rw [if_neg (Int.lt_irrefl _), hk, obind, if_pos (Int.natCast_nonneg _), if_pos (by rw [hl]; exact Int.ofNat_lt.2 (numB_lt hg hs)), Int.toNat_natCast]
  | succ d ih =>
    intro i acc hi hl ht
    have hil : i < acc.length := by omega
    refine Ev.step (fun k => ?_) (ih (i + 1) (acc.set i (-1)) (by omega) (by rw [List.length_set]; exact hl) ?_)
    · simp only [spec_boFar.l0]
      rw [if_pos (Int.ofNat_lt.2 (by omega)), if_pos (Int.natCast_nonneg _), if_pos (Int.ofNat_lt.2 hil), Int.toNat_natCast, succ64 (by omega)]
    · rw [List.take_succ_eq_append_getElem (by rw [List.length_set]; exact hil), List.take_set_of_le (Nat.le_refl i), ht, List.getElem_set_self, List.replicate_succ']
/-- What the reference's search finds. -/
theorem boFar {pl : List Int} {bl : List Blk} (hg : goodB pl bl = true) {s : Stt} (hs : okS pl bl s) :
    ∃ F, FarR pl F (foundB pl bl s) ∧ Ev (fun k => spec_boFar.f k pl bl (tx s)) (F, (foundB pl bl s).q.map tx) := by
  obtain ⟨hp1, hp2⟩ := prodB_le hg
  have hg1 := (good_parts hg).1
  have hlt := numB_lt hg hs.1
  have hF0 : FarR pl ((List.replicate (prodB pl) (-1 : Int)).set (numB pl s) 0) (init s) := by
    refine ⟨by rw [List.length_set, List.length_replicate], fun t ht => ?_⟩
    rw [getD_set (by rw [List.length_replicate]; exact hlt)]
    by_cases e : t = s
    · rw [if_pos (by rw [e])]
      simp [init, e, fz]
    · rw [if_neg (fun h => e (numB_inj hg ht hs.1 h.symm))]
      have hl := numB_lt hg ht
      rw [List.getD_eq_getElem?_getD, List.getElem?_replicate, if_pos hl]
      simp [init, e, fz]
  obtain ⟨F, hF, e⟩ := far_l1 hg s (prodB pl) 0 (init s) _ (Inv.start _ _) (GoodS.start hs) hF0 (by omega)
  refine ⟨F, hF, ?_⟩
  have e0 := far_l0 hg hs.1 _ e (prodB pl) 0 (List.replicate (prodB pl) 0) (Nat.zero_add _) (List.length_replicate ..) rfl
  have hc := boCount pl bl (by omega)
  rw [hp2] at hc
  unfold spec_boFar.f
  refine Ev.bind hc (Ev.congr (fun k => ?_) e0)
  rw [if_pos (Int.natCast_nonneg _), Int.toNat_natCast, if_pos (by omega), obind, List.length_replicate]
  rfl
theorem asked_parts {pl : List Int} {bl : List Blk} {s : Stt} (h : askedB pl bl s = true) : goodB pl bl = true ∧ okS pl bl s := by
  unfold askedB at h
  simp only [Bool.and_eq_true] at h
  exact ⟨h.1, h.2⟩
theorem ok_small {pl : List Int} {bl : List Blk} {s : Stt} (hg : goodB pl bl = true) (hs : okS pl bl s) : (tx s).size ≤ maxLen := by
  rw [tx_size]
  exact sz_le ((setup hg).small s hs)
end Go.Proofs.Ytehhfcbhoaocdaa.Lem
