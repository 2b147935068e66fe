/-
  What the printed functions on moves of one ring or both come to, in the words of YtppbohghongfmaaDoorPair.
-/
import Derived.Test.YtppbohghongfmaaDoorLemRingPN
import Derived.Test.YtppbohghongfmaaDoorPair
namespace Go.Proofs.YtppbohghongfmaaDoor.Lem
open Go.RowKit Go.Proofs.YtppbohghongfmaaDoor.PN Go.Proofs.YtppbohghongfmaaDoorW.PrintWords Go.Proofs.YtppbohghongfmaaDoorW.PrintLast Go.Proofs.YtppbohghongfmaaDoorW.PrintMore Go.Proofs.YtppbohghongfmaaDoor.Ring
set_option linter.unusedVariables false
set_option linter.unusedSimpArgs false

theorem succ64 {n : Nat} (h : n < 4611686018427387904) : wrap64 ((n : Int) + 1) = ((n + 1 : Nat) : Int) := by rw [w64 (by omega) (by omega)]; omega
theorem pred64 {n : Nat} (h : n < 4611686018427387904) (h1 : 1 ≤ n) : wrap64 ((n : Int) - 1) = ((n - 1 : Nat) : Int) := by rw [w64 (by omega) (by omega)]; omega
theorem extract_list (s : ByteArray) (a b : Nat) : (s.extract a b).data.toList = (s.data.toList.take b).drop a := by
  rw [ByteArray.data_extract, Array.toList_extract, List.extract_eq_take_drop, List.drop_take]
theorem bt_opt {s : ByteArray} {i : Nat} {c : UInt8} (h : s.data.toList[i]? = some c) : bt s (i : Int) = (c.toNat : Int) := by
  obtain ⟨hi, e⟩ := List.getElem?_eq_some_iff.1 h
  rw [bt_get hi, e]
theorem ones_zero {l : List UInt8} (h : l.all okc = true) : ones l = 0 ↔ l.all (· == 48) = true := by
  unfold ones
  rw [List.count_eq_zero, List.all_eq_true]
  constructor
  · intro hn c hc
    rcases okc_cases (List.all_eq_true.1 h c hc) with rfl | rfl
    · rfl
    · exact absurd hc hn
  · intro ha hm
    have := ha 49 hm
    simp at this
theorem take_ok {l : List UInt8} (h : l.all okc = true) (k : Nat) : (l.take k).all okc = true := by
  rw [List.all_eq_true] at h ⊢
  exact fun x hx => h x (List.mem_of_mem_take hx)
theorem riCan (s : ByteArray) (hs : s.data.toList.length ≤ 20) (ho : s.data.toList.all okc = true) (k : Nat) (hk : k < s.data.toList.length) : Ev (fun j => spec_riCan.f j s (k : Int)) (canR s.data.toList k) := by
  unfold spec_riCan.f
  have e := size_eq s
  by_cases h0 : k = 0
  · subst h0
    exact Ev.congr (fun j => if_pos rfl) (Ev.now _)
  · refine Ev.congr (fun j => if_neg (by omega)) ?_
    rw [l1In_eq, e, pred64 (by omega) (by omega), pred64 (by omega) (by omega)]
    refine Ev.congr (fun j => by rw [obind, if_pos (by simp; omega), if_pos (by omega), if_pos (by omega)]) ?_
    have hlt : k - 1 < s.data.toList.length := by omega
    obtain ⟨c, hc⟩ : ∃ c, s.data.toList[k - 1]? = some c := ⟨_, List.getElem?_eq_getElem hlt⟩
    have hb := bt_opt hc
    rw [hb]
    have e1 : ((k - 1 : Nat) : Int).toNat = k - 1 := rfl
    by_cases h49 : c = 49
    · refine Ev.congr (fun j => by rw [if_pos ((is49 c).2 h49), if_pos (by omega), e1]) ?_
      refine Ev.bind (riOn _ (by rw [size_eq, extract_list]; simp; omega)) ?_
      rw [extract_list, List.drop_zero]
      have : ((ones (s.data.toList.take (k - 1)) : Int) == 0) = canR s.data.toList k := by
        unfold canR
        rw [hc, h49]
        have hz := ones_zero (take_ok ho (k - 1))
        have : ((ones (s.data.toList.take (k - 1)) : Int) == 0) = (s.data.toList.take (k - 1)).all (· == 48) := by
          rw [Bool.eq_iff_iff, ← hz]
          simp
        rw [this, decide_eq_true hk, show (k == 0) = false from by simpa using h0]
        simp
      rw [this]
      exact Ev.now _
    · refine Ev.congr (fun j => if_neg (fun h => h49 ((is49 c).1 h))) ?_
      have : canR s.data.toList k = false := by
        unfold canR
        rw [hc]
        simp [h0, h49]
      rw [this]
      exact Ev.now _
theorem canMove (s : ByteArray) (hs : s.data.toList.length ≤ 20) (k : Nat) (hk : k < s.data.toList.length) : impl_canMove.f s (k : Int) = some (canR s.data.toList k) := by
  unfold impl_canMove.f
  have e := size_eq s
  by_cases h0 : k = 0
  · subst h0
    exact if_pos rfl
  · rw [if_neg (by omega), in_eq, e, pred64 (by omega) (by omega), pred64 (by omega) (by omega), obind, if_pos (by simp; omega), if_pos (by omega), if_pos (by omega)]
    have hlt : k - 1 < s.data.toList.length := by omega
    obtain ⟨c, hc⟩ : ∃ c, s.data.toList[k - 1]? = some c := ⟨_, List.getElem?_eq_getElem hlt⟩
    have hb := bt_opt hc
    rw [hb]
    have e1 : ((k - 1 : Nat) : Int).toNat = k - 1 := rfl
    by_cases h49 : c = 49
    · rw [if_pos ((is49 c).2 h49), if_pos (by omega), e1, show (⟨#[48]⟩ : ByteArray) = ⟨[48].toArray⟩ from rfl, trim_eq (s.extract 0 (k - 1)) [48] (by rw [size_eq, extract_list]; simp; omega) (by decide) (by decide), obind, toList_nil, extract_list, List.drop_zero]
      have : decide (Lib.trimS (s.data.toList.take (k - 1)) [48] = []) = (s.data.toList.take (k - 1)).all (· == 48) := by
        rw [Bool.eq_iff_iff, decide_eq_true_eq, trimS_nil]
        have : (fun c : UInt8 => [48].contains c) = (fun c : UInt8 => c == 48) := by
          funext c
          simp only [List.contains_cons, List.contains_nil, Bool.or_false]
        rw [this]
      rw [this]
      unfold canR
      rw [hc, h49, decide_eq_true hk, show (k == 0) = false from by simpa using h0]
      simp
    · rw [if_neg (fun h => h49 ((is49 c).1 h))]
      congr 1
      unfold canR
      rw [hc]
      simp [h0, h49]
/-- The rings below a bound that can be moved. -/
def mvU (l : List UInt8) (n : Nat) : List Nat := (List.range n).filter (canR l)
theorem mvU_succ (l : List UInt8) (n : Nat) : mvU l (n + 1) = if canR l n = true then mvU l n ++ [n] else mvU l n := by
  unfold mvU
  rw [List.range_succ, List.filter_append]
  by_cases h : canR l n = true
  · rw [if_pos h]; simp [h]
  · rw [if_neg h]; simp [h]
theorem mvU_len (l : List UInt8) (n : Nat) : (mvU l n).length ≤ n := by
  have := List.length_filter_le (canR l) (List.range n)
  rw [List.length_range] at this
  exact this
def ints (l : List Nat) : List Int := l.map fun k : Nat => (k : Int)
theorem riMoves (s : ByteArray) (hs : s.data.toList.length ≤ 20) (ho : s.data.toList.all okc = true) : Ev (fun j => spec_riMoves.f j s) (ints (mvR s.data.toList)) := by
  have e := size_eq s
  have main : ∀ (d n : Nat), n + d = s.data.toList.length → Ev (fun j => spec_riMoves.l0 j s (ints (mvU s.data.toList n)) n) (ints (mvR s.data.toList)) := by
    intro d
    induction d with
    | zero =>
      intro n hd
      refine Ev.step (f := fun _ => some (ints (mvR s.data.toList))) (fun k => ?_) (Ev.now _)
      simp only [spec_riMoves.l0]
      rw [if_neg (by omega)]
      have : n = s.data.toList.length := by omega
      subst this
      rfl
    | succ d ih =>
      intro n hd
      have h2 := ih (n + 1) (by omega)
      have hlt : n < s.data.toList.length := by omega
      have hl := mvU_len s.data.toList n
      have hc : okc (s.data.toList.getD n 0) = true := by
        rw [List.getD_eq_getElem?_getD, List.getElem?_eq_getElem hlt]
        exact List.all_eq_true.1 ho _ (List.getElem_mem _)
      have h128 : (s.data.toList.getD n 0).toNat < 128 := by
        rcases okc_cases hc with h | h <;> rw [h] <;> decide
      refine Ev.step (f := fun k => (spec_riCan.f k s (n : Int)).bind fun b => if b = true then (spec_riMoves.l0 k s (ints (mvU s.data.toList n) ++ [(n : Int)]) (n + 1)) else spec_riMoves.l0 k s (ints (mvU s.data.toList n)) (n + 1)) (fun k => ?_) ?_
      · simp only [spec_riMoves.l0]
        rw [if_pos (by omega), if_pos h128]
        have hlen : (ints (mvU s.data.toList n)).length < 17592186044416 := by unfold ints; rw [List.length_map]; omega
        simp only [if_pos hlen]
      · refine Ev.bind (riCan s hs ho n hlt) ?_
        rw [mvU_succ] at h2
        by_cases h : canR s.data.toList n = true
        · rw [if_pos h] at h2
          unfold ints at h2 ⊢
          rw [List.map_append] at h2
          exact Ev.congr (fun k => if_pos h) h2
        · rw [if_neg h] at h2
          exact Ev.congr (fun k => if_neg h) h2
  unfold spec_riMoves.f
  exact Ev.congr (fun k => if_pos (by omega)) (main s.data.toList.length 0 (by omega))
theorem movesOf (s : ByteArray) (hs : s.data.toList.length ≤ 20) : Ev (fun j => impl_movesOf.f j s) (ints (mvR s.data.toList)) := by
  have e := size_eq s
  have main : ∀ (d n : Nat), n + d = s.data.toList.length → Ev (fun j => impl_movesOf.l0 j s (ints (mvU s.data.toList n)) (s.data.toList.length : Int) (n : Int)) (ints (mvR s.data.toList)) := by
    intro d
    induction d with
    | zero =>
      intro n hd
      refine Ev.step (f := fun _ => some (ints (mvR s.data.toList))) (fun k => ?_) (Ev.now _)
      simp only [impl_movesOf.l0]
      rw [if_neg (by omega)]
      have : n = s.data.toList.length := by omega
      subst this
      rfl
    | succ d ih =>
      intro n hd
      have h2 := ih (n + 1) (by omega)
      have hlt : n < s.data.toList.length := by omega
      have hl := mvU_len s.data.toList n
      rw [mvU_succ] at h2
      refine Ev.step (f := fun k => if canR s.data.toList n = true then (impl_movesOf.l0 k s (ints (mvU s.data.toList n) ++ [(n : Int)]) (s.data.toList.length : Int) ((n + 1 : Nat) : Int)) else impl_movesOf.l0 k s (ints (mvU s.data.toList n)) (s.data.toList.length : Int) ((n + 1 : Nat) : Int)) (fun k => ?_) ?_
      · simp only [impl_movesOf.l0]
        rw [if_pos (by omega), canMove s hs n hlt, obind, succ64 (by omega)]
        have hlen : (ints (mvU s.data.toList n)).length < 17592186044416 := by unfold ints; rw [List.length_map]; omega
        simp only [if_pos hlen]
      · by_cases h : canR s.data.toList n = true
        · rw [if_pos h] at h2
          unfold ints at h2 ⊢
          rw [List.map_append] at h2
          exact Ev.congr (fun k => if_pos h) h2
        · rw [if_neg h] at h2
          exact Ev.congr (fun k => if_neg h) h2
  unfold impl_movesOf.f
  rw [e]
  exact main s.data.toList.length 0 (by omega)
theorem mvR_len (l : List UInt8) : (ints (mvR l)).length ≤ l.length := by
  unfold ints
  rw [List.length_map]
  exact mvU_len l l.length
theorem two_heads {s : ByteArray} (h2 : 2 ≤ s.data.toList.length) : ∃ a b, s.data.toList[0]? = some a ∧ s.data.toList[1]? = some b ∧ bt s 0 = (a.toNat : Int) ∧ bt s 1 = (b.toNat : Int) := by
  refine ⟨_, _, List.getElem?_eq_getElem (show 0 < s.data.toList.length by omega), List.getElem?_eq_getElem (show 1 < s.data.toList.length by omega), ?_, ?_⟩
  · exact bt_get (i := 0) (by omega)
  · exact bt_get (i := 1) (by omega)
theorem twMoves (s : ByteArray) (h2 : 2 ≤ s.data.toList.length) (hs : s.data.toList.length ≤ 20) (ho : s.data.toList.all okc = true) : Ev (fun j => spec_twMoves.f j s) (mvP s.data.toList) := by
  have e := size_eq s
  have hl := mvR_len s.data.toList
  obtain ⟨a, b, ha, hb, ea, eb⟩ := two_heads h2
  unfold spec_twMoves.f
  refine Ev.congr (fun k => by rw [if_pos (by omega), if_pos (by omega), ea, eb]) ?_
  unfold mvP
  rw [ha, hb]
  by_cases h : a = b
  · refine Ev.congr (fun k => by rw [if_pos (by rw [h]), if_pos (by simp), obind]) ?_
    refine Ev.bind (riMoves s hs ho) ?_
    refine Ev.congr (fun k => if_pos (by simp; omega)) ?_
    rw [if_pos (by rw [h])]
    exact Ev.now _
  · refine Ev.congr (fun k => by rw [if_neg (fun h' => h (UInt8.toNat_inj.1 (by omega)))]) ?_
    refine Ev.bind (riMoves s hs ho) ?_
    refine Ev.congr (fun k => if_pos (by simp; omega)) ?_
    rw [if_neg (by simpa using h)]
    exact Ev.now _
theorem pairMoves (s : ByteArray) (h2 : 2 ≤ s.data.toList.length) (hs : s.data.toList.length ≤ 20) : Ev (fun j => impl_pairMoves.f j s) (mvP s.data.toList) := by
  have e := size_eq s
  have hl := mvR_len s.data.toList
  obtain ⟨a, b, ha, hb, ea, eb⟩ := two_heads h2
  unfold impl_pairMoves.f
  have hc : impl_canPair.f s (-1) = some (decide (a = b)) := by
    unfold impl_canPair.f
    rw [if_pos rfl, if_pos (by omega), if_pos (by omega), ea, eb]
    congr 1
    rw [Bool.eq_iff_iff]
    simp only [beq_iff_eq, decide_eq_true_eq]
    constructor
    · intro h; exact UInt8.toNat_inj.1 (by omega)
    · intro h; rw [h]
  rw [hc]
  unfold mvP
  rw [ha, hb]
  by_cases h : a = b
  · refine Ev.congr (fun k => by rw [obind, if_pos (by simpa using h), if_pos (by simp), obind]) ?_
    refine Ev.bind (movesOf s hs) ?_
    refine Ev.congr (fun k => if_pos (by simp; omega)) ?_
    rw [if_pos (by rw [h])]
    exact Ev.now _
  · refine Ev.congr (fun k => by rw [obind, if_neg (by simpa using h)]) ?_
    refine Ev.bind (movesOf s hs) ?_
    refine Ev.congr (fun k => if_pos (by simp; omega)) ?_
    rw [if_neg (by simpa using h)]
    exact Ev.now _
end Go.Proofs.YtppbohghongfmaaDoor.Lem
