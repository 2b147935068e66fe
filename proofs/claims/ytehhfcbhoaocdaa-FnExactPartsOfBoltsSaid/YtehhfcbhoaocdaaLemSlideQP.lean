/-
  States of bolts and slides: the reference's and the program's come to the same.
-/
import Derived.Test.YtehhfcbhoaocdaaLemBoltQP
namespace Go.Proofs.Ytehhfcbhoaocdaa.Lem
open Go.RowKit Go.Proofs.Ytehhfcbhoaocdaa.PP Go.Proofs.YtehhfcbhoaocdaaW.PrintWords Go.Proofs.YtehhfcbhoaocdaaW.PrintLast Go.Proofs.YtehhfcbhoaocdaaW.PrintMore
set_option linter.unusedVariables false
set_option linter.unusedSimpArgs false

def tx (l : List UInt8) : ByteArray := ⟨l.toArray⟩
theorem tx_data (l : List UInt8) : (tx l).data.toList = l := by simp [tx]
theorem tx_size (l : List UInt8) : (tx l).size = l.length := by rw [size_eq, tx_data]
theorem ba_ext {a b : ByteArray} (h : a.data.toList = b.data.toList) : a = b := by
  apply ByteArray.ext
  exact Array.toList_inj.1 h
theorem tx_self (s : ByteArray) : tx s.data.toList = s := ba_ext (tx_data _)
theorem extract_list (s : ByteArray) (a b : Nat) : (s.extract a b).data.toList = (s.data.toList.drop a).take (b - a) := by
  rw [ByteArray.data_extract, Array.toList_extract]
theorem bt_getD {s : ByteArray} {i : Nat} (hi : i < s.data.toList.length) : bt s (i : Int) = ((s.data.toList.getD i 0).toNat : Int) := by
  have hs : i < s.size := by rw [size_eq]; exact hi
  unfold bt
  rw [dif_pos (show (i : Int).toNat < s.size by simpa using hs)]
  have : s.data.toList.getD i 0 = s[(i : Int).toNat]'(by simpa using hs) := by
    simp [List.getD, List.getElem?_eq_getElem hi]
    rfl
  rw [this]
/-- The digit at a place. -/
def dg (s : List UInt8) (i : Nat) : Int := ((s.getD i 0).toNat : Int) - 48
theorem bt_dg {l : List UInt8} {i : Nat} (hi : i < l.length) : bt (tx l) (i : Int) = dg l i + 48 := by
  rw [bt_getD (by rw [tx_data]; exact hi), tx_data]
  unfold dg
  omega
def dgIn (pl : List Int) (s : List UInt8) (i : Nat) : Bool := decide (0 ≤ dg s i ∧ dg s i ≤ pl.getD i 0 - 1)
def isStB (pl : List Int) (s : List UInt8) : Bool := decide (s.length = pl.length) && (List.range' 0 pl.length).all (dgIn pl s)
def hitsB (s : List UInt8) (b : Blk) : Bool := decide (dg s b.f0.toNat = b.f1) && decide (dg s b.f2.toNat = b.f3)
def freeB (bl : List Blk) (s : List UInt8) : Bool := !(bl.any (hitsB s))
theorem good_parts {pl : List Int} {bl : List Blk} (h : goodB pl bl = true) : (1 ≤ pl.length ∧ pl.length ≤ 6) ∧ (∀ x ∈ pl, 2 ≤ x ∧ x ≤ 5) ∧ bl.length ≤ 40 ∧ prodW 1 pl ≤ 1000 ∧ ∀ b ∈ bl, blockB pl bl b = true := by
  unfold goodB at h
  simp only [Bool.and_eq_true, decide_eq_true_eq, List.all_eq_true] at h
  exact ⟨h.1, fun x hx => h.2.1 x hx, h.2.2.1, h.2.2.2.1, h.2.2.2.2⟩
theorem st_parts {pl : List Int} {s : List UInt8} (h : isStB pl s = true) : s.length = pl.length ∧ ∀ i, i < pl.length → 0 ≤ dg s i ∧ dg s i ≤ pl.getD i 0 - 1 := by
  unfold isStB at h
  simp only [Bool.and_eq_true, decide_eq_true_eq, List.all_eq_true] at h
  refine ⟨h.1, fun i hi => ?_⟩
  have := h.2 i (by simp [List.mem_range'_1, hi])
  simpa [dgIn] using this
theorem pl_at {pl : List Int} {bl : List Blk} (h : goodB pl bl = true) {i : Nat} (hi : i < pl.length) : 2 ≤ pl.getD i 0 ∧ pl.getD i 0 ≤ 5 := by
  have e : pl.getD i 0 = pl[i] := by simp [List.getD, hi]
  rw [e]
  exact (good_parts h).2.1 _ (List.getElem_mem hi)
theorem rdD (l : List Int) (i : Nat) : rd l (i : Int) = l.getD i 0 := rfl
theorem isState (pl : List Int) (bl : List Blk) (s : List UInt8) (hg : goodB pl bl = true) : Ev (fun k => impl_Bolts_isState.f k pl bl (tx s)) (isStB pl s) := by
  unfold impl_Bolts_isState.f isStB
  obtain ⟨⟨h1, h6⟩, _⟩ := good_parts hg
  rw [tx_size]
  by_cases hl : s.length = pl.length
  · rw [decide_eq_true hl, Bool.true_and]
    refine Ev.congr (fun k => if_pos (by omega)) ?_
    rw [hl]
    refine ev_all (fun k i => impl_Bolts_isState.l0 k (tx s) (pl.length : Int) i pl bl) (dgIn pl s) pl.length ?_ ?_ ?_ pl.length 0 (Nat.zero_add _)
    · intro i hi hp r hr
      have hp' : 0 ≤ dg s i ∧ dg s i ≤ pl.getD i 0 - 1 := by simpa [dgIn] using hp
      have hq := pl_at hg hi
      refine Ev.step (fun k => ?_) hr
      simp only [impl_Bolts_isState.l0]
      rw [if_pos (Int.ofNat_lt.2 hi), if_pos (Int.natCast_nonneg _), tx_size, if_pos (by omega), if_pos (Int.ofNat_lt.2 hi), bt_dg (by omega), rdD, in_eq, obind, w64 (n := dg s i + 48) (by omega) (by omega), w64 (n := dg s i + 48 - 48) (by omega) (by omega), w64 (n := pl.getD i 0 - 1) (by omega) (by omega),
        if_pos (by rw [decide_eq_true_eq]; omega), succ64 (by omega)]
    · intro i hi hp
      have hp' : ¬ (0 ≤ dg s i ∧ dg s i ≤ pl.getD i 0 - 1) := by simpa [dgIn] using hp
      have hq := pl_at hg hi
      have hr : -48 ≤ dg s i ∧ dg s i ≤ 255 := by unfold dg; have := (s.getD i 0).toNat_lt; omega
      refine Ev.step (f := fun _ => some false) (fun k => ?_) (Ev.now _)
      simp only [impl_Bolts_isState.l0]
      rw [if_pos (Int.ofNat_lt.2 hi), if_pos (Int.natCast_nonneg _), tx_size, if_pos (by omega), if_pos (Int.ofNat_lt.2 hi), bt_dg (by omega), rdD, in_eq, obind, w64 (n := dg s i + 48) (by omega) (by omega), w64 (n := dg s i + 48 - 48) (by omega) (by omega), w64 (n := pl.getD i 0 - 1) (by omega) (by omega),
        if_neg (by rw [decide_eq_true_eq]; omega)]
    · refine Ev.step (f := fun _ => some true) (fun k => ?_) (Ev.now _)
      simp only [impl_Bolts_isState.l0]
      rw [if_neg (Int.lt_irrefl _)]
  · rw [decide_eq_false hl, Bool.false_and]
    exact Ev.congr (fun k => if_neg (by omega)) (Ev.now _)
/-- A block's places are in the state. -/
theorem blk_at {pl : List Int} {bl : List Blk} {s : List UInt8} (hg : goodB pl bl = true) (hs : isStB pl s = true) {b : Blk} (hb : b ∈ bl) :
    (0 ≤ b.f0 ∧ b.f0 < (s.length : Int) ∧ bt (tx s) b.f0 = dg s b.f0.toNat + 48 ∧ 0 ≤ dg s b.f0.toNat ∧ dg s b.f0.toNat ≤ 4) ∧ (0 ≤ b.f2 ∧ b.f2 < (s.length : Int) ∧ bt (tx s) b.f2 = dg s b.f2.toNat + 48 ∧ 0 ≤ dg s b.f2.toNat ∧ dg s b.f2.toNat ≤ 4) := by
  obtain ⟨⟨h1, h6⟩, hp, _, _, hbl⟩ := good_parts hg
  obtain ⟨hl, hd⟩ := st_parts hs
  obtain ⟨⟨a1, a2⟩, a3, a4⟩ := block_in (by omega) (hbl b hb)
  have key : ∀ x : Int, 0 ≤ x → x < (pl.length : Int) → x < (s.length : Int) ∧ bt (tx s) x = dg s x.toNat + 48 ∧ 0 ≤ dg s x.toNat ∧ dg s x.toNat ≤ 4 := by
    intro x h0 h1
    obtain ⟨i, rfl⟩ : ∃ i : Nat, x = (i : Int) := ⟨x.toNat, by omega⟩
    have hi : i < pl.length := by omega
    have := hd i hi
    have hq := pl_at hg hi
    exact ⟨by omega, bt_dg (by omega), this.1, by show dg s i ≤ 4; omega⟩
  exact ⟨⟨a1, key _ a1 a2⟩, a3, key _ a3 a4⟩
theorem boFree (pl : List Int) (bl : List Blk) (s : List UInt8) (hg : goodB pl bl = true) (hs : isStB pl s = true) : Ev (fun k => spec_boFree.f k pl bl (tx s)) (freeB bl s) := by
  obtain ⟨_, _, h40, _⟩ := good_parts hg
  have h := ev_all (fun k i => spec_boFree.l0 k (tx s) bl (bl.length : Int) i) (fun i => (bl[i]?).any (fun b => !hitsB s b)) bl.length ?_ ?_ ?_ bl.length 0 (Nat.zero_add _)
  · rw [all_range bl (fun b => !hitsB s b) _ (fun i hi => by rw [List.getElem?_eq_getElem hi]; rfl)] at h
    have e : bl.all (fun b => !hitsB s b) = freeB bl s := by unfold freeB; rw [← Bool.not_inj_iff, Bool.not_not, ← any_not]; simp
    rw [← e]
    exact h
  · intro i hi hp r hr
    rw [List.getElem?_eq_getElem hi] at hp
    obtain ⟨⟨a1, a2, a3, a4, a5⟩, b1, b2, b3, b4, b5⟩ := blk_at hg hs (List.getElem_mem hi)
    refine Ev.step (fun k => ?_) hr
    simp only [spec_boFree.l0]
    rw [if_pos (Int.ofNat_lt.2 hi), if_pos (Int.natCast_nonneg _), if_pos (Int.ofNat_lt.2 hi), rdB_get hi, tx_size, if_pos a1, if_pos a2, a3, show (dg s (bl[i].f0).toNat + 48 - 48) % 256 = dg s (bl[i].f0).toNat by omega]
    by_cases c1 : dg s (bl[i].f0).toNat = bl[i].f1
    · rw [if_pos c1, if_pos b1, if_pos b2, b3, show (dg s (bl[i].f2).toNat + 48 - 48) % 256 = dg s (bl[i].f2).toNat by omega, if_neg (by simpa [hitsB, c1] using hp), succ64 (by omega)]
    · rw [if_neg c1, succ64 (by omega)]
  · intro i hi hp
    rw [List.getElem?_eq_getElem hi] at hp
    obtain ⟨⟨a1, a2, a3, a4, a5⟩, b1, b2, b3, b4, b5⟩ := blk_at hg hs (List.getElem_mem hi)
    have hp' : dg s (bl[i].f0).toNat = bl[i].f1 ∧ dg s (bl[i].f2).toNat = bl[i].f3 := by simpa [hitsB] using hp
    refine Ev.step (f := fun _ => some false) (fun k => ?_) (Ev.now _)
    simp only [spec_boFree.l0]
    rw [if_pos (Int.ofNat_lt.2 hi), if_pos (Int.natCast_nonneg _), if_pos (Int.ofNat_lt.2 hi), rdB_get hi, tx_size, if_pos a1, if_pos a2, a3, show (dg s (bl[i].f0).toNat + 48 - 48) % 256 = dg s (bl[i].f0).toNat by omega, if_pos hp'.1, if_pos b1, if_pos b2, b3, show (dg s (bl[i].f2).toNat + 48 - 48) % 256 = dg s (bl[i].f2).toNat by omega, if_pos hp'.2]
  · refine Ev.step (f := fun _ => some true) (fun k => ?_) (Ev.now _)
    simp only [spec_boFree.l0]
    rw [if_neg (Int.lt_irrefl _)]
theorem allowed (pl : List Int) (bl : List Blk) (s : List UInt8) (hg : goodB pl bl = true) (hs : isStB pl s = true) : Ev (fun k => impl_Bolts_allowed.f k pl bl (tx s)) (freeB bl s) := by
  obtain ⟨_, _, h40, _⟩ := good_parts hg
  unfold impl_Bolts_allowed.f freeB
  refine Ev.bind (f := fun _ t => some (!t)) (contains_blk (q := hitsB s) bl (by omega) (fun b hb => ?_)) (Ev.now _)
  obtain ⟨⟨a1, a2, a3, a4, a5⟩, b1, b2, b3, b4, b5⟩ := blk_at hg hs hb
  unfold impl_Bolts_allowed_1.rule
  rw [tx_size, if_pos ⟨a1, a2⟩, a3, w64 (n := dg s b.f0.toNat + 48 - 48) (by omega) (by omega), show dg s b.f0.toNat + 48 - 48 = dg s b.f0.toNat by omega]
  unfold hitsB
  by_cases c1 : dg s b.f0.toNat = b.f1
  · rw [if_pos c1, if_pos ⟨b1, b2⟩, b3, w64 (n := dg s b.f2.toNat + 48 - 48) (by omega) (by omega), show dg s b.f2.toNat + 48 - 48 = dg s b.f2.toNat by omega, decide_eq_true c1, Bool.true_and]
    exact Ev.now _
  · rw [if_neg c1, decide_eq_false c1, Bool.false_and]
    exact Ev.now _
def askedB (pl : List Int) (bl : List Blk) (s : List UInt8) : Bool := goodB pl bl && (isStB pl s && freeB bl s)
/-! ### Slides -/
def put (s : List UInt8) (i : Nat) (b : Int) : List UInt8 := s.set i (UInt8.ofNat (((s.getD i 0).toNat + (if b = 1 then 1 else 255)) % 256))
/-- The state behind a slide, if it is an allowed one. -/
def nextB (pl : List Int) (bl : List Blk) (s : List UInt8) (x b : Int) : Option (List UInt8) :=
  if (0 ≤ x ∧ x < (s.length : Int)) ∧ (b = 1 ∨ b = -1) then (if (isStB pl (put s x.toNat b) && freeB bl (put s x.toNat b)) = true then some (put s x.toNat b) else none) else none
theorem put_length (s : List UInt8) (i : Nat) (b : Int) : (put s i b).length = s.length := by simp [put]
theorem slid (pl : List Int) (bl : List Blk) (s : List UInt8) (x b : Int) (hg : goodB pl bl = true) (hs : isStB pl s = true) :
    ∃ r, Ev (fun k => impl_Bolts_slid.f k pl bl (tx s) x b) r ∧ r.2 = (nextB pl bl s x b).isSome ∧ ∀ o, nextB pl bl s x b = some o → r.1 = tx o := by
  obtain ⟨⟨h1, h6⟩, _⟩ := good_parts hg
  obtain ⟨hl, _⟩ := st_parts hs
  unfold impl_Bolts_slid.f nextB
  rw [tx_size, w64 (n := (s.length : Int) - 1) (by omega) (by omega), in_eq]
  by_cases c1 : 0 ≤ x ∧ x < (s.length : Int)
  · by_cases c2 : b = 1 ∨ b = -1
    · rw [if_pos ⟨c1, c2⟩]
      have ho : impl_Bolts_slid.out (tx s) x.toNat b = tx (put s x.toNat b) := by unfold impl_Bolts_slid.out; rw [tx_data]; rfl
      rw [ho]
      have pre : ∀ (k : Nat) (e : Option (ByteArray × Bool)), ((some (decide (0 ≤ x ∧ x ≤ (s.length : Int) - 1))).bind fun t => if t = true then (if b = 1 ∨ b = -1 then (if 0 ≤ x ∧ x < (s.length : Int) ∧ s.length ≤ 4611686018427387904 then e else none) else some (⟨#[]⟩, false)) else some (⟨#[]⟩, false)) = e := by
        intro k e
        rw [obind, if_pos (by rw [decide_eq_true_eq]; omega), if_pos c2, if_pos ⟨c1.1, c1.2, by omega⟩]
      cases hs2 : isStB pl (put s x.toNat b) with
      | false =>
        have h2 := isState pl bl (put s x.toNat b) hg
        rw [hs2] at h2
        refine ⟨(tx (put s x.toNat b), false), Ev.congr (fun k => pre k _) (Ev.bind h2 (Ev.congr (fun k => if_neg (by simp)) (Ev.now _))), by rw [Bool.false_and, if_neg (by simp)]; rfl, fun o ho => ?_⟩
        rw [Bool.false_and, if_neg (by simp)] at ho
        cases ho
      | true =>
        have h2 := isState pl bl (put s x.toNat b) hg
        rw [hs2] at h2
        have h3 := allowed pl bl (put s x.toNat b) hg hs2
        refine ⟨(tx (put s x.toNat b), freeB bl (put s x.toNat b)), Ev.congr (fun k => pre k _) (Ev.bind h2 (Ev.congr (fun k => if_pos rfl) (Ev.bind (f := fun _ c => some (tx (put s x.toNat b), c)) h3 (Ev.now _)))), ?_, fun o ho => ?_⟩
        · rw [Bool.true_and]
          cases freeB bl (put s x.toNat b) <;> rfl
        · rw [Bool.true_and] at ho
          cases hf : freeB bl (put s x.toNat b) <;> rw [hf] at ho
          · rw [if_neg (by simp)] at ho; cases ho
          · rw [if_pos rfl] at ho
            rw [Option.some.inj ho]
    · rw [if_neg (fun h => c2 h.2)]
      refine ⟨(⟨#[]⟩, false), Ev.congr (fun k => ?_) (Ev.now _), rfl, fun o ho => by cases ho⟩
      rw [obind, if_pos (by rw [decide_eq_true_eq]; omega), if_neg c2]
  · rw [if_neg (fun h => c1 h.1)]
    refine ⟨(⟨#[]⟩, false), Ev.congr (fun k => ?_) (Ev.now _), rfl, fun o ho => by cases ho⟩
    rw [obind, if_neg (by rw [decide_eq_true_eq]; omega)]
theorem put_get {s : List UInt8} {i : Nat} (hi : i < s.length) (b : Int) (j : Nat) : (put s i b).getD j 0 = if i = j then UInt8.ofNat (((s.getD i 0).toNat + (if b = 1 then 1 else 255)) % 256) else s.getD j 0 := by
  unfold put
  rw [List.getD_eq_getElem?_getD, List.getElem?_set, List.getD_eq_getElem?_getD (i := j)]
  by_cases h : i = j
  · subst h; rw [if_pos rfl, if_pos rfl, if_pos hi]; rfl
  · rw [if_neg h, if_neg h]
theorem put_dg {pl : List Int} {bl : List Blk} {s : List UInt8} (hg : goodB pl bl = true) (hs : isStB pl s = true) {i : Nat} (hi : i < s.length) {b : Int} (hb : b = 1 ∨ b = -1) (j : Nat) : dg (put s i b) j = if i = j then dg s i + b else dg s j := by
  unfold dg
  rw [put_get hi]
  by_cases h : i = j
  · rw [if_pos h, if_pos h]
    obtain ⟨hl, hd⟩ := st_parts hs
    have h1 := hd i (by omega)
    have hq := pl_at hg (i := i) (by omega)
    unfold dg at h1
    generalize (s.getD i 0).toNat = c at h1 ⊢
    rcases hb with rfl | rfl
    · rw [if_pos rfl, UInt8.toNat_ofNat_of_lt' (by show _ < 256; omega)]; omega
    · rw [if_neg (by decide), UInt8.toNat_ofNat_of_lt' (by show _ < 256; omega)]; omega
  · rw [if_neg h, if_neg h]
/-- A slid state is one just if the slid bolt's place is there. -/
theorem put_st {pl : List Int} {bl : List Blk} {s : List UInt8} (hg : goodB pl bl = true) (hs : isStB pl s = true) {i : Nat} (hi : i < s.length) {b : Int} (hb : b = 1 ∨ b = -1) : isStB pl (put s i b) = decide (0 ≤ dg s i + b ∧ dg s i + b ≤ pl.getD i 0 - 1) := by
  obtain ⟨hl, hd⟩ := st_parts hs
  unfold isStB
  rw [put_length, decide_eq_true hl, Bool.true_and, Bool.eq_iff_iff, List.all_eq_true, decide_eq_true_eq]
  constructor
  · intro h
    have := h i (by simp [List.mem_range'_1]; omega)
    rw [dgIn, put_dg hg hs hi hb, if_pos rfl, decide_eq_true_eq] at this
    exact this
  · intro h j hj
    simp [List.mem_range'_1] at hj
    rw [dgIn, put_dg hg hs hi hb, decide_eq_true_eq]
    by_cases e : i = j
    · subst e; rw [if_pos rfl]; exact h
    · rw [if_neg e]; exact hd j hj
theorem l1Num (n : Int) (h0 : 0 ≤ n) (h9 : n < 10) : Ev (fun k => spec_l1Num.f k n) (strOfNums [(48 + n) % 256]) := by
  refine Ev.step (f := fun _ => some (strOfNums [(48 + n) % 256])) (fun k => ?_) (Ev.now _)
  simp only [spec_l1Num.f]
  rw [if_pos h9, w64 (n := 48 + n) (by omega) (by omega)]
theorem strOfNums_one (n : Int) (h0 : 0 ≤ n) (h9 : n < 10) : (strOfNums [(48 + n) % 256]).data.toList = [UInt8.ofNat (48 + n.toNat)] := by
  obtain ⟨m, rfl⟩ : ∃ m : Nat, n = (m : Int) := ⟨n.toNat, by omega⟩
  have : m = 0 ∨ m = 1 ∨ m = 2 ∨ m = 3 ∨ m = 4 ∨ m = 5 ∨ m = 6 ∨ m = 7 ∨ m = 8 ∨ m = 9 := by omega
  rcases this with rfl | rfl | rfl | rfl | rfl | rfl | rfl | rfl | rfl | rfl <;> decide
/-- The text with one sign put in the place of another. -/
theorem join_put {pl : List Int} {bl : List Blk} {s : List UInt8} (hg : goodB pl bl = true) (hs : isStB pl s = true) {i : Nat} (hi : i < s.length) {b : Int} (hb : b = 1 ∨ b = -1) (h0 : 0 ≤ dg s i + b) (h9 : dg s i + b < 10) :
    (((tx s).extract 0 i) ++ strOfNums [(48 + (dg s i + b)) % 256]) ++ ((tx s).extract (i + 1) s.length) = tx (put s i b) := by
  apply ba_ext
  rw [tx_data, ByteArray.data_append, ByteArray.data_append, Array.toList_append, Array.toList_append, extract_list, extract_list, tx_data, strOfNums_one _ h0 h9]
  have e : put s i b = s.take i ++ UInt8.ofNat (48 + (dg s i + b).toNat) :: s.drop (i + 1) := by
    have hd := put_dg hg hs hi hb i
    rw [if_pos rfl] at hd
    have hv : (put s i b).getD i 0 = UInt8.ofNat (48 + (dg s i + b).toNat) := by
      unfold dg at hd
      have h1 := (put s i b).getD i 0 |>.toNat_lt
      have h2 : ((put s i b).getD i 0).toNat = 48 + (dg s i + b).toNat := by unfold dg; unfold dg at h0; omega
      rw [← h2]; simp
    have hp := put_get hi b i
    rw [if_pos rfl, hv] at hp
    unfold put
    rw [← hp, List.set_eq_take_append_cons_drop, if_pos hi]
  rw [e, List.drop_zero, List.append_assoc, List.take_of_length_le (l := s.drop (i + 1)) (by rw [List.length_drop]; omega)]
  rfl
theorem boPut (pl : List Int) (bl : List Blk) (s : List UInt8) (x b : Int) (hg : goodB pl bl = true) (hs : isStB pl s = true) :
    ∃ r, Ev (fun k => spec_boPut.f k pl bl (tx s) x b) r ∧ r.2 = (nextB pl bl s x b).isSome ∧ ∀ o, nextB pl bl s x b = some o → r.1 = tx o := by
  obtain ⟨⟨h1, h6⟩, _⟩ := good_parts hg
  obtain ⟨hl, hd⟩ := st_parts hs
  have jt : Ev (fun k => spec_boPut.j0 k (tx s) true pl bl x b) (⟨#[]⟩, false) := Ev.step (f := fun _ => some (⟨#[]⟩, false)) (fun k => by simp only [spec_boPut.j0]; rw [if_pos trivial]) (Ev.now _)
  unfold spec_boPut.f nextB
  rw [w64 (n := (pl.length : Int) - 1) (by omega) (by omega), l1In_eq]
  by_cases c1 : 0 ≤ x ∧ x < (s.length : Int)
  · by_cases c2 : b = 1 ∨ b = -1
    · rw [if_pos ⟨c1, c2⟩]
      obtain ⟨i, rfl⟩ : ∃ i : Nat, x = (i : Int) := ⟨x.toNat, by omega⟩
      have hi : i < s.length := by omega
      have e1 : (i : Int).toNat = i := rfl
      have hdi := hd i (by omega)
      have hq := pl_at hg (i := i) (by omega)
      rw [e1]
      have hst := put_st hg hs hi c2
      have hb1 : -1 ≤ b ∧ b ≤ 1 := by omega
      have pre : ∀ r, Ev (fun k => spec_boPut.j0 k (tx s) false pl bl (i : Int) b) r → Ev (fun k => (some (decide (0 ≤ (i : Int) ∧ (i : Int) ≤ (pl.length : Int) - 1))).bind fun t142 => (if t142 = true then (if b = 1 then (spec_boPut.j0 k (tx s) false pl bl (i : Int) b) else (spec_boPut.j0 k (tx s) (b != (-1)) pl bl (i : Int) b)) else (spec_boPut.j0 k (tx s) true pl bl (i : Int) b))) r := by
        intro r hr
        refine Ev.congr (fun k => ?_) hr
        rw [obind, if_pos (by rw [decide_eq_true_eq]; omega)]
        rcases c2 with rfl | rfl
        · rw [if_pos rfl]
        · rw [if_neg (by decide)]; rfl
      have hbt : bt (tx s) (i : Int) = dg s i + 48 := bt_dg hi
      have hmod : (dg s i + 48 - 48) % 256 = dg s i := by omega
      have hw1 : wrap64 (dg s i + b) = dg s i + b := w64 (by omega) (by omega)
      have hw2 : wrap64 (pl.getD i 0 - 1) = pl.getD i 0 - 1 := w64 (by omega) (by omega)
      have hlt : (i : Int) < ((tx s).size : Int) := by rw [tx_size]; omega
      have hlp : (i : Int) < (pl.length : Int) := by omega
      by_cases c3 : 0 ≤ dg s i + b ∧ dg s i + b ≤ pl.getD i 0 - 1
      · rw [decide_eq_true c3] at hst
        have hf := boFree pl bl (put s i b) hg hst
        have hn := l1Num (dg s i + b) c3.1 (by omega)
        have hj := join_put hg hs hi c2 c3.1 (by omega)
        have hA : i + 1 ≤ 9223372036854775807 := Nat.le_trans (show i + 1 ≤ 6 by omega) (by decide)
        have hB : (0 : Int) ≤ ((i + 1 : Nat) : Int) := Int.natCast_nonneg _
        have hC : ((i + 1 : Nat) : Int) ≤ (((tx s).size : Nat) : Int) := by rw [tx_size]; omega
        have hD : i + 1 + (s.length - (i + 1)) ≤ 9223372036854775807 := Nat.le_trans (show i + 1 + (s.length - (i + 1)) ≤ 6 by omega) (by decide)
        have hs3 : ((tx s).extract (i + 1) s.length).size = s.length - (i + 1) := by rw [size_eq, extract_list, tx_data]; simp
        have hs2 : (strOfNums [(48 + (dg s i + b)) % 256]).size = 1 := by rw [size_eq, strOfNums_one _ c3.1 (by omega)]; rfl
        have hs1 : ((tx s).extract 0 i).size = i := by rw [size_eq, extract_list, tx_data]; simp; omega
        have hsu : wrap64 ((i : Int) + 1) = ((i + 1 : Nat) : Int) := succ64 (by omega)
        have e2 : ((i + 1 : Nat) : Int).toNat = i + 1 := rfl
        refine ⟨(tx (put s i b), freeB bl (put s i b)), pre _ ?_, ?_, fun o ho => ?_⟩
        · obtain ⟨K1, g1⟩ := hn
          obtain ⟨K2, g2⟩ := hf
          have g1 : ∀ k, K1 ≤ k → spec_l1Num.f k (dg s i + b) = some (strOfNums [(48 + (dg s i + b)) % 256]) := g1
          have g2 : ∀ k, K2 ≤ k → spec_boFree.f k pl bl (tx (put s i b)) = some (freeB bl (put s i b)) := g2
          refine ⟨max K1 K2 + 1, fun n hn => ?_⟩
          obtain ⟨k, rfl⟩ : ∃ k, n = k + 1 := ⟨n - 1, by clear hs1 hs2 hs3; omega⟩
          have hk1 : K1 ≤ k := by clear hs1 hs2 hs3; omega
          have hk2 : K2 ≤ k := by clear hs1 hs2 hs3; omega
          simp only [spec_boPut.j0]
          rw [if_neg Bool.false_ne_true, if_pos (Int.natCast_nonneg _), if_pos hlt, if_pos hlp, hbt, hmod, rdD, hw1, hw2, l1In_eq, obind, if_pos (by rw [decide_eq_true_eq]; exact c3)]
          rw [if_pos (Int.le_of_lt hlt), g1 k hk1, obind, e1, hs1, hs2]
          rw [if_pos hA, hsu, if_pos hB, if_pos hC, e2, tx_size, ByteArray.size_append, hs1, hs2, hs3, if_pos hD, hj, g2 k hk2, obind]
        · rw [hst, Bool.true_and]
          cases freeB bl (put s i b) <;> rfl
        · rw [hst, Bool.true_and] at ho
          cases hfr : freeB bl (put s i b) <;> rw [hfr] at ho
          · rw [if_neg (by simp)] at ho; cases ho
          · rw [if_pos rfl] at ho
            rw [Option.some.inj ho]
      · rw [decide_eq_false c3] at hst
        refine ⟨(⟨#[]⟩, false), pre _ (Ev.step (f := fun _ => some (⟨#[]⟩, false)) (fun k => ?_) (Ev.now _)), by rw [hst, Bool.false_and, if_neg (by simp)]; rfl, fun o ho => ?_⟩
        · simp only [spec_boPut.j0]
          rw [if_neg (by simp), if_pos (Int.natCast_nonneg _), if_pos hlt, if_pos hlp, hbt, hmod, rdD, hw1, hw2, l1In_eq, obind, if_neg (by rw [decide_eq_true_eq]; exact c3)]
        · rw [hst, Bool.false_and, if_neg (by simp)] at ho
          cases ho
    · rw [if_neg (fun h => c2 h.2)]
      refine ⟨(⟨#[]⟩, false), Ev.congr (fun k => ?_) jt, rfl, fun o ho => by cases ho⟩
      rw [obind, if_pos (by rw [decide_eq_true_eq]; omega), if_neg (by omega), show (b != -1) = true by simp; omega]
  · rw [if_neg (fun h => c1 h.1)]
    refine ⟨(⟨#[]⟩, false), Ev.congr (fun k => ?_) jt, rfl, fun o ho => by cases ho⟩
    rw [obind, if_neg (by rw [decide_eq_true_eq]; omega)]
end Go.Proofs.Ytehhfcbhoaocdaa.Lem
