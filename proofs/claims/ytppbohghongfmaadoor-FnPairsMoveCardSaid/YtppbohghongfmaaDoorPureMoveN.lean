/-
  Moves of two at once: what is saved, the first ways, the ways, lists that are played, moves taken back: the law of all of them holds.
-/
import Derived.Test.YtppbohghongfmaaDoorLemMvAN
import Derived.Test.YtppbohghongfmaaDoorLemDrawMN
import Derived.Test.YtppbohghongfmaaDoorPNx11
namespace Go.Proofs.YtppbohghongfmaaDoor.Lem
open Go.RowKit Go.Proofs.YtppbohghongfmaaDoor.PN Go.Proofs.YtppbohghongfmaaDoorW.PrintWords Go.Proofs.YtppbohghongfmaaDoorW.PrintLast Go.Proofs.YtppbohghongfmaaDoorW.PrintMore Go.Proofs.YtppbohghongfmaaDoor.Ring Go.Proofs.YtppbohghongfmaaDoor.Bfs
set_option linter.unusedVariables false
set_option linter.unusedSimpArgs false

theorem ev_at {α : Type} {g : Nat → Option α} {r : α} (h : Ev g r) : ∃ K, ∀ k, K ≤ k → g k = some r := h
/-- The draws. -/
theorem draw_first {l : List Int} (hl : Byts l) : ∃ a b, Ev (fun k => spec_DrawFirstPairMoves.f k l) (a, b) ∧ Few8 a := by
  obtain ⟨a, b, p1, q1, e1, h8, _⟩ := draw_pair hl (n := 0) (by omega) (p := 0) (q := 0) ⟨Int.le_refl _, Int.le_refl _⟩
  refine ⟨a, b, ?_, h8⟩
  unfold spec_DrawFirstPairMoves.f
  refine Ev.bind (a := (a, b)) ?_ (Ev.now _)
  unfold spec_DrawFewestPairMoves.f
  refine Ev.bind (a := (a, b, p1, q1)) ?_ (Ev.now _)
  unfold spec_DrawFewestPairMoves.g
  exact Ev.bind e1 (Ev.now _)
theorem draw_pm {l : List Int} (hl : Byts l) : ∃ a, Ev (fun k => spec_DrawPairMovesOf.f k l) a := by
  obtain ⟨a, b, p1, q1, e1, h8, _⟩ := draw_pair hl (n := 0) (by omega) (p := 0) (q := 0) ⟨Int.le_refl _, Int.le_refl _⟩
  refine ⟨a, ?_⟩
  unfold spec_DrawPairMovesOf.f
  refine Ev.bind (a := (a, p1, q1)) ?_ (Ev.now _)
  unfold spec_DrawPairMovesOf.g
  exact Ev.bind e1 (Ev.now _)
theorem draw_make {l : List Int} (hl : Byts l) : ∃ a m, Ev (fun k => spec_DrawMakePairMove.f k l) (a, m) := by
  obtain ⟨a, b, p1, q1, e1, h8, ha1⟩ := draw_pair hl (n := 0) (by omega) (p := 0) (q := 0) ⟨Int.le_refl _, Int.le_refl _⟩
  obtain ⟨x, p2, q2, e2, _, _⟩ := draw_among hl (by omega : 0 + 60 < 4000000000) (q := q1) ha1 [(-1), 0, 1, 2, 3, (-2), 12] (by simp) (by simp)
  refine ⟨a, x, ?_⟩
  unfold spec_DrawMakePairMove.f
  refine Ev.bind (a := (a, x, p2, q2)) ?_ (Ev.now _)
  unfold spec_DrawMakePairMove.g
  refine Ev.bind e1 (Ev.congr (fun k => ?_) (Ev.now _))
  show (spec_l1Cur_among.f l p1 q1 _).bind _ = _
  rw [e2, obind]
theorem few_r {a b : ByteArray} {r : Nat} {la lb : List UInt8} (h : Few8 a) (D : Duo a b r la lb) : r ≤ 8 := by
  have e : a.size = r := by rw [D.ea, tx_size, D.hla]
  have h12 := D.h12
  obtain ⟨_, h | h⟩ := h <;> omega
theorem Leads.top {s : Nat} {l : List UInt8} {ks : List Int} (h : Leads s l ks) {r : Nat} (hl : l.length = r) (hs : s < 2 ^ r) (hr : r ≤ 10) : ks.length ≤ 1024 := by
  have h1 := h.len
  have h2 := D8_top s (num l)
  have h3 := num_lt l
  rw [hl] at h3
  have h1024 : 2 ^ r ≤ 1024 := Nat.pow_le_pow_right (by decide) hr
  omega
theorem draw_play {l : List Int} (hl : Byts l) : ∃ a ks, Ev (fun k => spec_DrawPlayPairMoves.f k l) (a, ks) ∧ ks.length ≤ 100000 := by
  obtain ⟨a, b, p1, q1, e1, h8, ha1⟩ := draw_pair hl (n := 0) (by omega) (p := 0) (q := 0) ⟨Int.le_refl _, Int.le_refl _⟩
  have ht := twTwo a b
  have mv : ∀ (n : Nat) (p q : Int), n < 1000 → At n p → ∃ ms p' q', Ev (fun k => spec_DrawPlayPairMoves.j0 k a b false l p q) (a, ms, p', q') ∧ ms.length ≤ 1001 := by
    intro n p q hn hp
    obtain ⟨ms, p', q', e, h⟩ := draw_moves hl hn (q := q) hp a
    refine ⟨ms, p', q', ev_num e (Ev.now _) (fun k hk => ?_), h⟩
    simp only [spec_DrawPlayPairMoves.j0]
    rw [if_neg Bool.false_ne_true, hk, obind]
  have fin : ∀ (ms : List Int) (p' q' : Int), Ev (fun k => spec_DrawPlayPairMoves.g k l 0 0) (a, ms, p', q') → Ev (fun k => spec_DrawPlayPairMoves.f k l) (a, ms) := by
    intro ms p' q' h
    unfold spec_DrawPlayPairMoves.f
    exact Ev.bind h (Ev.now _)
  cases hab : twoP a b with
  | false =>
    rw [hab] at ht
    obtain ⟨ms, p', q', e, h⟩ := mv 60 p1 q1 (by omega) ha1
    refine ⟨a, ms, fin ms p' q' ?_, by omega⟩
    unfold spec_DrawPlayPairMoves.g
    exact Ev.bind e1 (Ev.bind ht (Ev.congr (fun k => if_neg Bool.false_ne_true) e))
  | true =>
    rw [hab] at ht
    obtain ⟨o, p2, q2, e2, ha2⟩ := draw_one hl (by omega : 0 + 60 < 4000000000) (q := q1) ha1 3 (by decide) (by decide)
    cases o with
    | true =>
      obtain ⟨ms, p', q', e, h⟩ := mv 61 p2 q2 (by omega) ha2
      refine ⟨a, ms, fin ms p' q' ?_, by omega⟩
      unfold spec_DrawPlayPairMoves.g
      refine Ev.bind e1 (Ev.bind ht (Ev.congr (fun k => ?_) e))
      rw [if_pos rfl]
      show (spec_l1Cur_one.f l p1 q1 3).bind _ = _
      rw [e2, obind]
      rfl
    | false =>
      obtain ⟨r, la, lb, D⟩ := duo_of hab
      have hr := few_r h8 D
      obtain ⟨ks, hks, _, e3, _⟩ := D.first (by omega)
      have hlen := hks.top D.hla D.nb (by omega)
      refine ⟨a, ks, fin ks p2 q2 ?_, by omega⟩
      unfold spec_DrawPlayPairMoves.g
      have e4 : Ev (fun k => spec_DrawPlayPairMoves.j0 k a b true l p2 q2) (a, ks, p2, q2) := by
        refine ev_num e3 (Ev.now _) (fun k hk => ?_)
        simp only [spec_DrawPlayPairMoves.j0]
        rw [if_pos trivial, hk, obind]
      refine Ev.bind e1 (Ev.bind ht (Ev.congr (fun k => ?_) e4))
      rw [if_pos rfl]
      show (spec_l1Cur_one.f l p1 q1 3).bind _ = _
      rw [e2, obind]
      rfl
/-- A move that is made can be taken back. -/
theorem tail_made (d : ByteArray) (m : Int) : (if (madeV d m).2 = true then ((impl_MakePairMove.f (madeV d m).1 m).bind fun bt583 => (if bt583.2 = true then (some (bt583.1.toList == d.toList)) else (none))) else (some true)) = some true := by
  by_cases c : goodP d.data.toList = true ∧ m ∈ mvP d.data.toList
  · have hv : madeV d m = (tx (mkP d.data.toList m), true) := if_pos c
    obtain ⟨g2, g12, go, gs⟩ := goodP_len c.1
    have hb := back_mkP go c.2
    have hg := goodP_of (l := mkP d.data.toList m) (by rw [mkP_length]; exact g2) (by rw [mkP_length]; exact g12) (mkP_ok go m)
    have hv2 : madeV (tx (mkP d.data.toList m)) m = (d, true) := by
      unfold madeV
      rw [tx_data, if_pos ⟨hg, hb.1⟩, hb.2, tx_self]
    rw [hv]
    show (if true = true then ((impl_MakePairMove.f (tx (mkP d.data.toList m)) m).bind _) else _) = _
    rw [if_pos rfl, made_impl, hv2, obind, if_pos rfl, beq_self_eq_true]
  · have hv : madeV d m = (⟨#[]⟩, false) := if_neg c
    rw [hv]
    exact if_neg (by simp)
theorem law_j7 (d : ByteArray) (m : Int) : Ev (fun k => laws_FnPairsMove.j7 k d m (madeV d m).1 (madeV d m).2 false) true := by
  refine Ev.step (f := fun _ => some true) (fun k => ?_) (Ev.now _)
  simp only [laws_FnPairsMove.j7]
  rw [if_neg Bool.false_ne_true]
  exact tail_made d m
theorem sum_bound : ∀ l : List Int, (∀ x ∈ l, -1 ≤ x ∧ x ≤ 1000) → -(l.length : Int) ≤ l.sum ∧ l.sum ≤ 1000 * (l.length : Int)
  | [], _ => by simp
  | x :: l, h => by
    have h1 := h x (List.mem_cons_self)
    have h2 := sum_bound l (fun y hy => h y (List.mem_cons_of_mem _ hy))
    rw [List.sum_cons, List.length_cons]
    omega
theorem mvP_sum (l : List UInt8) : (mvP l).sum = (ints (mvR l)).sum - (((mvP l).length : Int) - ((ints (mvR l)).length : Int)) := by
  unfold mvP ints
  rw [List.sum_append, List.length_append]
  by_cases c : l[0]? = l[1]?
  · rw [if_pos c, List.length_singleton]
    simp only [List.sum_cons, List.sum_nil]
    omega
  · rw [if_neg c, List.length_nil]
    simp only [List.sum_nil]
    omega
theorem both_mem {l : List UInt8} (h2 : 2 ≤ l.length) (h12 : l.length ≤ 12) (ho : l.all okc = true) : ((bt (tx l) 0) == (bt (tx l) 1)) = decide ((-1 : Int) ∈ mvP l) := by
  have h := canPair h2 h12 ho (-1)
  unfold impl_canPair.f at h
  rw [if_pos rfl, if_pos (by rw [tx_size]; omega), if_pos (by rw [tx_size]; omega)] at h
  exact Option.some.inj h
theorem law_j6 (c d : ByteArray) (m : Int) : Ev (fun k => laws_FnPairsMove.j6 k c (movesV c).1 (movesV c).2 d m (madeV d m).1 (madeV d m).2 false) true := by
  cases hg : goodP c.data.toList with
  | false =>
    have hv : movesV c = ([], false) := if_neg (by rw [hg]; simp)
    rw [hv]
    refine Ev.step (f := fun _ => some true) (fun k => ?_) (Ev.now _)
    simp only [laws_FnPairsMove.j6]
    rw [if_neg Bool.false_ne_true, if_neg Bool.false_ne_true]
    exact tail_made d m
  | true =>
    have hv : movesV c = (mvP c.data.toList, true) := if_pos hg
    obtain ⟨g2, g12, go, gs⟩ := goodP_len hg
    have his := isState c
    rw [gs] at his
    have hmo : Ev (fun k => impl_MovesOf.f k c) (ints (mvR c.data.toList), true) := by
      unfold impl_MovesOf.f
      exact Ev.congr (fun k => by rw [his, obind, if_pos rfl]) (Ev.bind (movesOf c (by omega)) (Ev.now _))
    have hpl := mvP_top c.data.toList g12
    have hrl := mvR_len c.data.toList
    have hb1 : ∀ x ∈ mvP c.data.toList, -1 ≤ x ∧ x ≤ 1000 := by
      intro x hx
      rcases mem_mvP.1 hx with ⟨rfl, _⟩ | ⟨j, rfl, hj, _⟩ <;> omega
    have hb2 : ∀ x ∈ ints (mvR c.data.toList), -1 ≤ x ∧ x ≤ 1000 := by
      intro x hx
      refine hb1 x ?_
      unfold ints at hx
      unfold mvP
      exact List.mem_append_right _ hx
    obtain ⟨K1, h1⟩ := ev_at hmo
    obtain ⟨K2, h2⟩ := ev_at (yHas (mvP c.data.toList) (by omega) (-1))
    obtain ⟨K3, h3⟩ := ev_at (ySum (mvP c.data.toList) (by omega) hb1)
    obtain ⟨K4, h4⟩ := ev_at (ySum (ints (mvR c.data.toList)) (by omega) hb2)
    obtain ⟨K5, h5⟩ := ev_at (law_j7 d m)
    have hs1 := sum_bound _ hb2
    have hsum : wrap64 ((ints (mvR c.data.toList)).sum - (wrap64 (((mvP c.data.toList).length : Int) - ((ints (mvR c.data.toList)).length : Int)))) = (mvP c.data.toList).sum := by
      rw [w64 (n := ((mvP c.data.toList).length : Int) - _) (by omega) (by omega), w64 (by omega) (by omega), mvP_sum]
    have hbt := both_mem g2 g12 go
    rw [tx_self] at hbt
    have hsz := size_eq c
    rw [hv]
    refine ⟨K1 + K2 + K3 + K4 + K5 + 1, fun k hk => ?_⟩
    obtain ⟨j, rfl⟩ : ∃ j, k = j + 1 := ⟨k - 1, by omega⟩
    simp only [laws_FnPairsMove.j6]
    rw [if_neg Bool.false_ne_true, if_pos trivial, h1 j (by omega), obind, if_pos rfl, h2 j (by omega), obind, if_pos (by omega), if_pos (by omega), hbt, if_neg (by rw [bne_self_eq_false]; exact Bool.false_ne_true), h3 j (by omega), obind, h4 j (by omega), obind, hsum, bne_self_eq_false]
    exact h5 j (by omega)
theorem law_j5 {z : List Int} (hz : Byts z) : Ev (fun k => laws_FnPairsMove.j5 k z) true := by
  obtain ⟨a, ks, e1, hks⟩ := draw_play hz
  obtain ⟨c, e2⟩ := draw_pm hz
  obtain ⟨d, m, e3⟩ := draw_make hz
  obtain ⟨p1, p2⟩ := play_both a ks hks
  obtain ⟨m1, m2⟩ := moves_both c
  have hml : (movesV c).1.length ≤ 1000000 := by
    unfold movesV
    split
    · rename_i h
      have := mvP_top c.data.toList (goodP_len h).2.1
      show (mvP c.data.toList).length ≤ _
      omega
    · exact Nat.zero_le _
  obtain ⟨K1, h1⟩ := ev_at e1
  obtain ⟨K2, h2⟩ := ev_at e2
  obtain ⟨K3, h3⟩ := ev_at e3
  obtain ⟨K4, h4⟩ := ev_at p1
  obtain ⟨K5, h5⟩ := ev_at p2
  obtain ⟨K6, h6⟩ := ev_at m1
  obtain ⟨K7, h7⟩ := ev_at m2
  obtain ⟨K8, h8⟩ := ev_at (made_spec d m)
  obtain ⟨K9, h9⟩ := ev_at (ySame (movesV c).1 hml)
  obtain ⟨K10, h10⟩ := ev_at (law_j6 c d m)
  refine ⟨K1 + K2 + K3 + K4 + K5 + K6 + K7 + K8 + K9 + K10 + 1, fun k hk => ?_⟩
  obtain ⟨j, rfl⟩ : ∃ j, k = j + 1 := ⟨k - 1, by omega⟩
  simp only [laws_FnPairsMove.j5]
  rw [h1 j (by omega), obind]
  show ((impl_PlayPairMoves.f j a ks).bind _) = _
  rw [h4 j (by omega), obind]
  show ((spec_PlayPairMoves.f j a ks).bind _) = _
  rw [h5 j (by omega), obind, h2 j (by omega), obind, h6 j (by omega), obind, h7 j (by omega), obind, h3 j (by omega), obind]
  show ((impl_MakePairMove.f d m).bind _) = _
  rw [made_impl, obind]
  show ((spec_MakePairMove.f j d m).bind _) = _
  rw [h8 j (by omega), obind, if_neg (by rw [bne_self_eq_false]; exact Bool.false_ne_true), if_pos rfl, if_neg (by rw [bne_self_eq_false]; exact Bool.false_ne_true), h9 j (by omega), obind, if_pos rfl, if_neg (by rw [bne_self_eq_false]; exact Bool.false_ne_true), bne_self_eq_false]
  exact h10 j (by omega)
section
variable {z : List Int} {a b : ByteArray} {r : Nat} {la lb : List UInt8} {ks : List Int}
/-- Where the loop over all moves stands: the move that leads nearer is the P-th. -/
def bestAt (L : List Int) (P j : Nat) : Int := if P < j then L.getD P 0 + 1 else -1
def allAt (P j : Nat) : Int := if P < j then 1 else 0
theorem bestAt_one (L : List Int) (j : Nat) (hj : j < L.length) : bestAt L j (j + 1) = L[j] + 1 := by
  unfold bestAt
  rw [if_pos (Nat.lt_succ_self j), List.getD_eq_getElem?_getD, List.getElem?_eq_getElem hj]
  rfl
theorem bestAt_same (L : List Int) {P j : Nat} (h : ¬ j = P) : bestAt L P (j + 1) = bestAt L P j := by
  unfold bestAt
  by_cases e : P < j
  · rw [if_pos e, if_pos (by omega)]
  · rw [if_neg e, if_neg (by omega)]
theorem allAt_same {P j : Nat} (h : ¬ j = P) : allAt P (j + 1) = allAt P j := by
  unfold allAt
  by_cases e : P < j
  · rw [if_pos e, if_pos (by omega)]
  · rw [if_neg e, if_neg (by omega)]
theorem step_duo (D : Duo a b r la lb) (m : Int) : Duo (tx (mkP la m)) b r (mkP la m) lb := ⟨rfl, D.eb, by rw [mkP_length, D.hla], D.hlb, mkP_ok D.oa m, D.ob, D.h2, D.h12⟩
theorem law_l1 (hz : Byts z) (L : List Int) (tm : Int → ByteArray) (fn : Int → Nat) (n0 P : Nat) (hL : L.length ≤ 13) (hn0 : n0 ≤ 10000) (hmk : ∀ m ∈ L, -1 ≤ m ∧ m ≤ 1000)
    (hmd : ∀ m ∈ L, impl_MakePairMove.f a m = some (tm m, true)) (hfew : ∀ m ∈ L, Ev (fun k => impl_FewestPairMoves.f k (tm m) b) (((fn m : Nat) : Int), true)) (hways : ∀ m ∈ L, Ev (fun k => impl_CountPairWays.f k (tm m) b) ((1 : Int), true))
    (hnear : ∀ m ∈ L, fn m ≤ n0 + 1 ∧ n0 ≤ fn m + 1) (hP : ∀ (j : Nat) (hj : j < L.length), fn L[j] + 1 = n0 ↔ j = P)
    (hend : 0 < n0 → P < L.length ∧ 0 < ks.length ∧ rd ks 0 = L.getD P 0) : ∀ d j, j + d = L.length →
    Ev (fun k => laws_FnPairsMove.l1 k z a b ks ((n0 : Nat) : Int) 1 true (bestAt L P j) (allAt P j) L (L.length : Int) (j : Int)) true := by
  intro d
  induction d with
  | zero =>
    intro j hj
    obtain ⟨K, h⟩ := ev_at (law_j5 hz)
    refine ⟨K + 1, fun k hk => ?_⟩
    obtain ⟨i, rfl⟩ : ∃ i, k = i + 1 := ⟨k - 1, by omega⟩
    simp only [laws_FnPairsMove.l1]
    rw [if_neg (by omega), if_pos trivial]
    by_cases c : 0 < n0
    · obtain ⟨e1, e2, e3⟩ := hend c
      have hg : L.getD P 0 = L[P] := by rw [List.getD_eq_getElem?_getD, List.getElem?_eq_getElem e1]; rfl
      have hb := hmk _ (List.getElem_mem e1)
      rw [← hg] at hb
      have ha : allAt P j = 1 := if_pos (by omega)
      have hbe : bestAt L P j = L.getD P 0 + 1 := if_pos (by omega)
      rw [if_pos (by omega), ha, if_pos rfl, if_pos (by omega), e3, hbe]
      generalize L.getD P 0 = x at hb
      rw [w64 (by omega) (by omega), if_pos rfl]
      exact h i (by omega)
    · rw [if_neg (by omega)]
      exact h i (by omega)
  | succ d ih =>
    intro j hj
    have hjl : j < L.length := by omega
    have hjl' : (j : Int) < (L.length : Int) := Int.ofNat_lt.2 hjl
    have hmem : L[j] ∈ L := List.getElem_mem hjl
    have hh := hP j hjl
    have hmd := hmd _ hmem
    have hmb := hmk _ hmem
    have hnr := hnear _ hmem
    obtain ⟨K1, h1⟩ := ev_at (hfew _ hmem)
    obtain ⟨K2, h2⟩ := ev_at (hways _ hmem)
    obtain ⟨K3, h3⟩ := ev_at (ih (j + 1) (by omega))
    have hrd : rd L (j : Int) = L[j] := rd_get hjl
    have hone := bestAt_one L j hjl
    clear hfew hways hnear hP ih hmk
    generalize L[j] = m at *
    generalize fn m = n1 at *
    have hsj : wrap64 ((j : Int) + 1) = ((j + 1 : Nat) : Int) := succ64 (by omega)
    have hx : decide (((n1 : Nat) : Int) > wrap64 (((n0 : Nat) : Int) + 1)) = false := decide_eq_false (by rw [w64 (by omega) (by omega)]; omega)
    have hpr : wrap64 (((n0 : Nat) : Int) - 1) = ((n0 : Nat) : Int) - 1 := w64 (by omega) (by omega)
    refine ⟨K1 + K2 + K3 + 2, fun k hk => ?_⟩
    obtain ⟨i, rfl⟩ : ∃ i, k = i + 2 := ⟨k - 2, by omega⟩
    have h3 := h3 i (by omega)
    have h1 := h1 (i + 1) (by omega)
    have h2 := h2 (i + 1) (by omega)
    have key : laws_FnPairsMove.j4 (i + 1) z a b ks ((n0 : Nat) : Int) 1 true (bestAt L P j) (allAt P j) m ((n1 : Nat) : Int) 1 L (L.length : Int) (j : Int) false = some true := by
      simp only [laws_FnPairsMove.j4]
      rw [if_neg Bool.false_ne_true, hpr, hsj]
      by_cases c : n1 + 1 = n0
      · have hjP : j = P := hh.1 c
        subst hjP
        have hb0 : bestAt L j j = -1 := if_neg (Nat.lt_irrefl j)
        have ha0 : allAt j j = 0 := if_neg (Nat.lt_irrefl j)
        have ha1 : allAt j (j + 1) = 1 := if_pos (Nat.lt_succ_self j)
        rw [hone, ha1] at h3
        rw [if_pos (by omega), hb0, ha0, if_pos (by decide), w64 (n := m + 1) (by omega) (by omega), w64 (n := (0 : Int) + 1) (by decide) (by decide)]
        exact h3
      · have hjP : ¬ j = P := fun e => c (hh.2 e)
        rw [bestAt_same L hjP, allAt_same hjP] at h3
        rw [if_neg (by omega)]
        exact h3
    simp only [laws_FnPairsMove.l1]
    rw [if_pos hjl', if_pos (Int.natCast_nonneg _), if_pos hjl', hrd, hmd, obind]
    show ((impl_FewestPairMoves.f (i + 1) (tm m) b).bind _) = _
    rw [h1, obind]
    show ((impl_CountPairWays.f (i + 1) (tm m) b).bind _) = _
    rw [h2, obind, if_pos rfl, if_pos rfl, if_pos rfl]
    show (if ((n1 : Nat) : Int) < wrap64 (((n0 : Nat) : Int) - 1) then _ else _) = _
    rw [hpr, if_neg (by omega)]
    show laws_FnPairsMove.j4 (i + 1) z a b ks ((n0 : Nat) : Int) 1 true (bestAt L P j) (allAt P j) m ((n1 : Nat) : Int) 1 L (L.length : Int) (j : Int) (decide (((n1 : Nat) : Int) > wrap64 (((n0 : Nat) : Int) + 1))) = _
    rw [hx]
    exact key
theorem law_j2 (hz : Byts z) (D : Duo a b r la lb) (hks : Leads (num lb) la ks) : Ev (fun k => laws_FnPairsMove.j2 k z a b ks ((D8 (num lb) (num la) : Nat) : Int) 1 false) true := by
  have hmv : Ev (fun k => impl_PairMovesOf.f k a) (mvP la, true) := by
    have h := (moves_both a).1
    unfold movesV at h
    rw [D.ea, tx_data, if_pos (goodP_of (by rw [D.hla]; exact D.h2) (by rw [D.hla]; exact D.h12) D.oa), ← D.ea] at h
    exact h
  have hp : ∃ P, (∀ (j : Nat) (hj : j < (mvP la).length), D8 (num lb) (num (mkP la (mvP la)[j])) + 1 = D8 (num lb) (num la) ↔ j = P) ∧
      (0 < D8 (num lb) (num la) → P < (mvP la).length ∧ 0 < ks.length ∧ rd ks 0 = (mvP la).getD P 0) := by
    by_cases c : num la = num lb
    · refine ⟨(mvP la).length, fun j hj => ⟨fun h => ?_, fun h => by omega⟩, fun h => ?_⟩
      · rw [c, D8_self] at h
        omega
      · rw [c, D8_self] at h
        omega
    · obtain ⟨k0, hk0, hd0, hone⟩ := only_move (s := num lb) (by rw [D.hla]; exact D.h2) D.oa (by rw [D.hla]; exact D.nb) c
      obtain ⟨P, hPl, hPe⟩ := List.getElem_of_mem hk0
      refine ⟨P, fun j hj => ⟨fun h => ?_, fun h => ?_⟩, fun _ => ⟨hPl, ?_⟩⟩
      · have e := hone _ (List.getElem_mem hj) h
        rw [← hPe] at e
        exact (List.getElem_inj (mvP_nodup la)).1 e
      · subst h
        rw [hPe]
        exact hd0
      · cases hks with
        | nil h => exact absurd h c
        | @cons _ k ks' hk hd _ =>
          have e := hone k hk hd
          refine ⟨by rw [List.length_cons]; omega, ?_⟩
          rw [List.getD_eq_getElem?_getD, List.getElem?_eq_getElem hPl, hPe, e]
          rfl
  obtain ⟨P, h1, h2⟩ := hp
  have g2 : 2 ≤ la.length := by rw [D.hla]; exact D.h2
  have g12 : la.length ≤ 12 := by rw [D.hla]; exact D.h12
  have hn0 : D8 (num lb) (num la) ≤ 10000 := by
    have htop := D8_top (num lb) (num la)
    obtain ⟨sa, sb⟩ := D.small
    generalize D8 (num lb) (num la) = x at *
    omega
  have h := law_l1 (a := a) (b := b) (ks := ks) hz (mvP la) (fun m => tx (mkP la m)) (fun m => D8 (num lb) (num (mkP la m))) (D8 (num lb) (num la)) P (mvP_top la g12) hn0
    (fun m hm => by
      rcases mem_mvP.1 hm with ⟨rfl, _⟩ | ⟨j, rfl, hj, _⟩ <;> omega)
    (fun m hm => by
      rw [made_impl]
      unfold madeV
      rw [D.ea, tx_data, if_pos ⟨goodP_of g2 g12 D.oa, hm⟩])
    (fun m hm => (step_duo D m).few.1) (fun m hm => (step_duo D m).ways.1)
    (fun m hm => ⟨D8_near (near_mk g2 D.oa hm), D8_near (near8_symm (near_mk g2 D.oa hm))⟩) h1 h2 (mvP la).length 0 (Nat.zero_add _)
  refine ev_num hmv h (fun k hk => ?_)
  simp only [laws_FnPairsMove.j2]
  rw [if_neg Bool.false_ne_true, hk, obind]
  rfl
/-- What the first list spares. -/
theorem spare (D : Duo a b r la lb) (hks : Leads (num lb) la ks) : (plainN la lb : Int) - (D8 (num lb) (num la) : Nat) = ((ks.count (-1) : Nat) : Int) := by
  have h := hks.spare (by rw [D.hla]; exact D.h2) D.oa
  have hl := hks.len
  unfold plainN
  omega
theorem law_l0 (hz : Byts z) (D : Duo a b r la lb) (hr : r ≤ 10) (hks : Leads (num lb) la ks) : ∀ d i (c : Nat), i + d = ks.length → c ≤ i → c + (ks.drop i).count (-1) = ks.count (-1) →
    Ev (fun k => laws_FnPairsMove.l0 k z a b ks ((D8 (num lb) (num la) : Nat) : Int) 1 ((ks.count (-1) : Nat) : Int) ((ks.count (-1) : Nat) : Int) b true (plainN la lb : Int) true ((D8 (num lb) (num la) : Nat) : Int) true (c : Int) ks (ks.length : Int) (i : Int)) true := by
  have hlen := hks.len
  have htop := hks.top D.hla D.nb hr
  have hsp := spare D hks
  intro d
  induction d with
  | zero =>
    intro i c hi _ hc
    rw [List.drop_eq_nil_of_le (by omega), List.count_nil, Nat.add_zero] at hc
    refine Ev.step (fun k => ?_) (law_j2 hz D hks)
    simp only [laws_FnPairsMove.l0]
    rw [if_neg (by omega), if_pos (by omega), if_pos trivial, if_pos trivial, if_pos (by omega), if_pos trivial, if_pos (by rw [w64 (by omega) (by omega)]; exact hsp), if_neg (by omega), if_pos trivial, if_pos trivial, if_neg (by decide), if_pos (by omega)]
    congr 1
    exact decide_eq_false (by omega)
  | succ d ih =>
    intro i c hi hci hc
    have hil : i < ks.length := by omega
    have hil' : (i : Int) < (ks.length : Int) := Int.ofNat_lt.2 hil
    rw [drop_cons hil, List.count_cons] at hc
    by_cases e : ks[i] = -1
    · rw [if_pos (by rw [e]; rfl)] at hc
      refine Ev.step (fun k => ?_) (ih (i + 1) (c + 1) (by omega) (by omega) (by omega))
      simp only [laws_FnPairsMove.l0]
      rw [if_pos hil', if_pos (Int.natCast_nonneg _), if_pos hil', rd_get hil, if_pos e, succ64 (by omega), succ64 (by omega)]
    · rw [if_neg (by simpa using e)] at hc
      refine Ev.step (fun k => ?_) (ih (i + 1) c (by omega) (by omega) (by omega))
      simp only [laws_FnPairsMove.l0]
      rw [if_pos hil', if_pos (Int.natCast_nonneg _), if_pos hil', rd_get hil, if_neg e, succ64 (by omega)]
theorem play_first (D : Duo a b r la lb) (hr : r ≤ 10) (hks : Leads (num lb) la ks) : Ev (fun k => impl_PlayPairMoves.f k a ks) (b, true) := by
  have htop := hks.top D.hla D.nb hr
  have h := (play_both a ks (by omega)).1
  obtain ⟨m, h1, h2, h3, h4⟩ := hks.play
  have e : m = lb := num_inj (h4 D.oa) D.ob (by rw [h3, D.hla, D.hlb]) h2
  unfold playV at h
  rw [D.ea, tx_data, if_pos ⟨goodP_of (by rw [D.hla]; exact D.h2) (by rw [D.hla]; exact D.h12) D.oa, by omega⟩, h1, e, ← D.ea] at h
  have h5 : Ev (fun k => impl_PlayPairMoves.f k a ks) (tx lb, true) := h
  rw [← D.eb] at h5
  exact h5
theorem law_j0 (hz : Byts z) (D : Duo a b r la lb) (hr : r ≤ 10) (hks : Leads (num lb) la ks) : Ev (fun k => laws_FnPairsMove.j0 k z a b ks true ((D8 (num lb) (num la) : Nat) : Int) 1 ((ks.count (-1) : Nat) : Int) ((ks.count (-1) : Nat) : Int) false) true := by
  obtain ⟨K1, h1⟩ := ev_at (play_first D hr hks)
  obtain ⟨K2, h2⟩ := ev_at D.plain
  have hb := D.back.few.1
  rw [D8_symm] at hb
  obtain ⟨K3, h3⟩ := ev_at hb
  obtain ⟨K4, h4⟩ := ev_at (law_l0 hz D hr hks ks.length 0 0 (Nat.zero_add _) (Nat.le_refl _) (by rw [List.drop_zero, Nat.zero_add]))
  refine ⟨K1 + K2 + K3 + K4 + 1, fun k hk => ?_⟩
  obtain ⟨j, rfl⟩ : ∃ j, k = j + 1 := ⟨k - 1, by omega⟩
  simp only [laws_FnPairsMove.j0]
  rw [if_neg Bool.false_ne_true, if_pos trivial, h1 j (by omega), obind, h2 j (by omega), obind, h3 j (by omega), obind]
  exact h4 j (by omega)
end
theorem big_f (w z : List Int) : ∃ b, laws_big.f w z = some b := by
  unfold laws_big.f
  by_cases c : (w.length : Int) > 1048576
  · rw [if_pos c]; exact ⟨_, rfl⟩
  · rw [if_neg c]; exact ⟨_, rfl⟩
/-- The law behind its first draw. -/
theorem law_f {w z : List Int} {a b : ByteArray} {ks : List Int} {ok : Bool} {few ways saved used : Int} (hb : laws_big.f w z = some false) (hw : Ev (fun k => spec_DrawFirstPairMoves.f k w) (a, b)) (hk : ks.length ≤ 1000000)
    (f1 : Ev (fun k => impl_FirstPairMoves.f k a b) (ks, ok)) (f2 : Ev (fun k => spec_FirstPairMoves.f k a b) (ks, ok)) (g1 : Ev (fun k => impl_FewestPairMoves.f k a b) (few, ok)) (g2 : Ev (fun k => spec_FewestPairMoves.f k a b) (few, ok))
    (c1 : Ev (fun k => impl_CountPairWays.f k a b) (ways, ok)) (c2 : Ev (fun k => spec_CountPairWays.f k a b) (ways, ok)) (s1 : Ev (fun k => impl_SavedByPairs.f k a b) (saved, ok)) (s2 : Ev (fun k => spec_SavedByPairs.f k a b) (saved, ok))
    (u1 : Ev (fun k => impl_PairsUsed.f k a b) (used, ok)) (u2 : Ev (fun k => spec_PairsUsed.f k a b) (used, ok)) (hj : Ev (fun k => laws_FnPairsMove.j0 k z a b ks ok few ways saved used false) true) : Ev (fun k => laws_FnPairsMove.f k w z) true := by
  obtain ⟨K0, h0⟩ := ev_at hw
  obtain ⟨K1, h1⟩ := ev_at f1
  obtain ⟨K2, h2⟩ := ev_at f2
  obtain ⟨K3, h3⟩ := ev_at g1
  obtain ⟨K4, h4⟩ := ev_at g2
  obtain ⟨K5, h5⟩ := ev_at c1
  obtain ⟨K6, h6⟩ := ev_at c2
  obtain ⟨K7, h7⟩ := ev_at s1
  obtain ⟨K8, h8⟩ := ev_at s2
  obtain ⟨K9, h9⟩ := ev_at u1
  obtain ⟨K10, h10⟩ := ev_at u2
  obtain ⟨K11, h11⟩ := ev_at (ySame ks hk)
  obtain ⟨K12, h12⟩ := ev_at hj
  refine ⟨K0 + K1 + K2 + K3 + K4 + K5 + K6 + K7 + K8 + K9 + K10 + K11 + K12, fun j hk => ?_⟩
  have hn : ∀ x : Bool, ¬ ((x != x) = true) := fun x => by rw [bne_self_eq_false]; exact Bool.false_ne_true
  show laws_FnPairsMove.f j w z = _
  unfold laws_FnPairsMove.f
  rw [hb, obind, if_neg Bool.false_ne_true, h0 j (by omega), obind]
  show ((impl_FirstPairMoves.f j a b).bind _) = _
  rw [h1 j (by omega), obind]
  show ((spec_FirstPairMoves.f j a b).bind _) = _
  rw [h2 j (by omega), obind]
  show ((impl_FewestPairMoves.f j a b).bind _) = _
  rw [h3 j (by omega), obind]
  show ((spec_FewestPairMoves.f j a b).bind _) = _
  rw [h4 j (by omega), obind]
  show ((impl_CountPairWays.f j a b).bind _) = _
  rw [h5 j (by omega), obind]
  show ((spec_CountPairWays.f j a b).bind _) = _
  rw [h6 j (by omega), obind]
  show ((impl_SavedByPairs.f j a b).bind _) = _
  rw [h7 j (by omega), obind]
  show ((spec_SavedByPairs.f j a b).bind _) = _
  rw [h8 j (by omega), obind]
  show ((impl_PairsUsed.f j a b).bind _) = _
  rw [h9 j (by omega), obind]
  show ((spec_PairsUsed.f j a b).bind _) = _
  rw [h10 j (by omega), obind]
  show (if (ok != ok) = true then _ else ((laws_ySame.f j ks ks).bind _)) = _
  rw [if_neg (hn ok), h11 j (by omega), obind, if_pos rfl]
  show (if (ok != ok) = true then _ else (if few = few then (if (ok != ok) = true then _ else (if ways = ways then (if (ok != ok) = true then _ else (if saved = saved then (if (ok != ok) = true then _ else (if used = used then (if (ok != ok) = true then _ else (if (ok != ok) = true then _ else (if (ok != ok) = true then _ else (laws_FnPairsMove.j0 j z a b ks ok few ways saved used (ok != ok))))) else _)) else _)) else _)) else _)) = _
  rw [if_neg (hn ok), if_pos rfl, if_neg (hn ok), if_pos rfl, if_neg (hn ok), if_pos rfl, if_neg (hn ok), if_pos rfl, if_neg (hn ok), if_neg (hn ok), if_neg (hn ok), bne_self_eq_false]
  exact h12 j (by omega)
end Go.Proofs.YtppbohghongfmaaDoor.Lem
namespace Go.Proofs.YtppbohghongfmaaDoor.Pure
open Go.RowKit Go.Proofs.YtppbohghongfmaaDoor.Lem Go.Proofs.YtppbohghongfmaaDoor.PN Go.Proofs.YtppbohghongfmaaDoorW.PrintWords Go.Proofs.YtppbohghongfmaaDoorW.PrintLast Go.Proofs.YtppbohghongfmaaDoorW.PrintMore Go.Proofs.YtppbohghongfmaaDoor.Ring

theorem FnPairsMove : laws_FnPairsMove.Pure := by
  intro w z _ _ hw0 _ _ hz0
  have key : Ev (fun k => laws_FnPairsMove.f k w z) true := by
    obtain ⟨bb, hb⟩ := big_f w z
    cases bb with
    | true =>
      unfold laws_FnPairsMove.f
      rw [hb]
      exact Ev.congr (fun k => by rw [obind, if_pos rfl]) (Ev.now _)
    | false =>
    have hz := byts_of hz0
    obtain ⟨a, b, hw, h8⟩ := draw_first (byts_of hw0)
    cases hab : twoP a b with
    | false =>
      obtain ⟨⟨f1, f2⟩, ⟨g1, g2⟩, ⟨c1, c2⟩, ⟨s1, s2⟩, ⟨u1, u2⟩⟩ := no_two hab
      refine law_f hb hw (Nat.zero_le _) f1 f2 g1 g2 c1 c2 s1 s2 u1 u2 ?_
      refine Ev.step (fun k => ?_) (law_j5 hz)
      simp only [laws_FnPairsMove.j0]
      rw [if_neg Bool.false_ne_true, if_neg Bool.false_ne_true]
    | true =>
      obtain ⟨r, la, lb, D⟩ := duo_of hab
      have hr := few_r h8 D
      obtain ⟨ks, hks, f1, f3, f2⟩ := D.first (by omega)
      have htop := hks.top D.hla D.nb (by omega)
      obtain ⟨u1, u2⟩ := used_both (by omega) hab f1 f3
      have hs := D.saved
      rw [spare D hks] at hs
      exact law_f hb hw (by omega) f1 f2 D.few.1 D.few.2 D.ways.1 D.ways.2 hs.1 hs.2 u1 u2 (law_j0 hz D (by omega) hks)
  obtain ⟨K, h⟩ := key
  exact ⟨K, h K (Nat.le_refl _)⟩
end Go.Proofs.YtppbohghongfmaaDoor.Pure
