/-
  The pure statements of the laws on WalksTo and ChanceAfter.
-/
import Derived.Test.YtclidnndehbhjaaDoorLemSpread
import Derived.Test.YtclidnndehbhjaaDoorPureMean
namespace Go.Proofs.YtclidnndehbhjaaDoor.Pure
open Go.RowKit Go.Proofs.YtclidnndehbhjaaDoor.PA Go.Proofs.YtclidnndehbhjaaDoorW.PrintWords Go.Proofs.YtclidnndehbhjaaDoorW.PrintLast Go.Proofs.YtclidnndehbhjaaDoorW.PrintMore Go.Proofs.YtclidnndehbhjaaDoor.Ring Go.Proofs.YtclidnndehbhjaaDoor.Lem
set_option linter.unusedVariables false

/-- Two states of few rings, and moves. -/
def small (a b : ByteArray) (m : Int) : Bool := two a b && decide (a.data.toList.length ≤ 12) && decide (0 ≤ m ∧ m ≤ 40)
theorem waSmall (a b : ByteArray) (m : Int) : Ev (fun k => spec_waSmall.f k a b m) (small a b m) := by
  unfold spec_waSmall.f small
  refine Ev.bind (riTwo a b) ?_
  cases two a b with
  | false => exact Ev.now _
  | true =>
    refine Ev.congr (fun k => if_pos rfl) ?_
    rw [size_eq, l1In_eq]
    by_cases h : a.data.toList.length ≤ 12
    · refine Ev.congr (fun k => if_pos (by omega)) ?_
      simp only [obind, h, decide_true, Bool.true_and]
      exact Ev.now _
    · refine Ev.congr (fun k => if_neg (by omega)) ?_
      simp only [h, decide_false, Bool.and_false, Bool.false_and]
      exact Ev.now _
theorem isWalk (a : ByteArray) : impl_isWalk.f a = some (isSt a.data.toList && decide (a.data.toList.length ≤ 12)) := by
  unfold impl_isWalk.f
  rw [isState, obind, size_eq]
  cases isSt a.data.toList with
  | false => rfl
  | true =>
    rw [if_pos rfl, Bool.true_and]
    congr 1
    rw [Bool.eq_iff_iff]
    simp only [decide_eq_true_eq]
    omega
def walksOf (e : Int) (a b : ByteArray) (m : Int) : Int := (walksL (topN a.data.toList) e m.toNat (startL (topN a.data.toList) (num a.data.toList))).getD (num b.data.toList) 0
theorem small_and {a b : ByteArray} {m : Int} (h : small a b m = true) : two a b = true ∧ a.data.toList.length ≤ 12 ∧ 0 ≤ m ∧ m ≤ 40 := by
  simpa [small, and_assoc] using h
theorem num_len {a b : ByteArray} (h : two a b = true) : num b.data.toList ≤ topN a.data.toList := by
  obtain ⟨h1, h2, h3⟩ := two_and h
  have := (topN_le (isSt_len h2).2.1).2
  unfold topN at this ⊢
  rw [h3]
  exact this
theorem walksTo_spec (a b : ByteArray) (m : Int) : Ev (fun k => spec_WalksTo.f k a b m) (if small a b m = true then (walksOf 1 a b m, true) else (0, false)) := by
  unfold spec_WalksTo.f
  refine Ev.bind (waSmall a b m) ?_
  cases h : small a b m with
  | false => exact Ev.now _
  | true =>
    obtain ⟨h1, h2, h3, h4⟩ := small_and h
    obtain ⟨p1, p2, p3⟩ := two_and h1
    obtain ⟨_, l1, _⟩ := isSt_len p1
    obtain ⟨_, l2, _⟩ := isSt_len p2
    obtain ⟨g1, g2⟩ := topN_le l1
    have g3 := num_len h1
    obtain ⟨M, rfl⟩ := Int.eq_ofNat_of_zero_le h3
    refine Ev.congr (fun k => if_pos rfl) (Ev.bind (waNumbers a b l1 l2) ?_)
    simp only [topN_eq]
    refine Ev.bind (waWalks _ _ M g1 g2 (by omega)) ?_
    have hl := walksL_length (topN a.data.toList) 1 M _ (startL_length (topN a.data.toList) (num a.data.toList))
    refine Ev.congr (fun k => if_pos (by omega)) (Ev.congr (fun k => if_pos (by omega)) ?_)
    exact Ev.now _
theorem walksTo_no (a b : ByteArray) (m : Int) : Ev (fun k => impl_WalksTo.j0 k a b m true) (0, false) :=
  Ev.step (f := fun _ => some _) (fun k => by simp only [impl_WalksTo.j0]; rw [if_pos trivial]) (Ev.now _)
theorem walksTo_impl (a b : ByteArray) (m : Int) : Ev (fun k => impl_WalksTo.f k a b m) (if small a b m = true then (walksOf 1 a b m, true) else (0, false)) := by
  unfold impl_WalksTo.f
  rw [alike, isWalk, in_eq]
  simp only [obind]
  cases h1 : two a b with
  | false => simp only [small, h1, Bool.false_and]; exact walksTo_no a b m
  | true =>
    obtain ⟨p1, p2, p3⟩ := two_and h1
    obtain ⟨_, l1, _⟩ := isSt_len p1
    obtain ⟨_, l2, _⟩ := isSt_len p2
    obtain ⟨g1, g2⟩ := topN_le l1
    have g3 := num_len h1
    rw [p1]
    refine Ev.congr (fun k => if_pos rfl) ?_
    by_cases h2 : a.data.toList.length ≤ 12
    · refine Ev.congr (fun k => if_pos (by simpa using h2)) ?_
      by_cases h3 : 0 ≤ m ∧ m ≤ 40
      · have hs : small a b m = true := by simp only [small, h1, h2, h3, decide_true, Bool.and_self, and_self]
        rw [if_pos hs]
        simp only [h3, and_self, decide_true, Bool.not_true]
        obtain ⟨M, rfl⟩ := Int.eq_ofNat_of_zero_le h3.1
        refine Ev.step (fun k => by simp only [impl_WalksTo.j0]; rw [if_neg (by simp)]) ?_
        refine Ev.bind (spread a p1 M (by omega) 1) (Ev.bind (number b p2) ?_)
        have hl := walksL_length (topN a.data.toList) 1 M _ (startL_length (topN a.data.toList) (num a.data.toList))
        refine Ev.congr (fun k => if_pos (by omega)) (Ev.congr (fun k => if_pos (by omega)) ?_)
        exact Ev.now _
      · have hs : small a b m = false := by simp only [small, h3, decide_false, Bool.and_false]
        rw [hs]
        simp only [h3, decide_false, Bool.not_false]
        exact walksTo_no a b m
    · refine Ev.congr (fun k => if_neg (by simpa using h2)) ?_
      have hs : small a b m = false := by simp only [small, h2, decide_false, Bool.and_false, Bool.false_and]
      rw [hs]
      exact walksTo_no a b m
theorem FnExactWalksTo : laws_FnExactWalksTo.Pure := by
  intro a0 a1 a2 _ _ _
  by_cases h : (a0.size : Int) > 1048576
  · exact ⟨0, by unfold laws_FnExactWalksTo.f; rw [if_pos h]⟩
  by_cases h' : (a1.size : Int) > 1048576
  · exact ⟨0, by unfold laws_FnExactWalksTo.f; rw [if_neg h, if_pos h']⟩
  · refine Ev.rounds ?_
    unfold laws_FnExactWalksTo.f
    simp only [if_neg h, if_neg h']
    refine Ev.bind (walksTo_spec a0 a1 a2) (Ev.bind (walksTo_impl a0 a1 a2) ?_)
    exact Ev.congr (f := fun _ => some _) (fun k => same2 rfl) (Ev.now _)
theorem pow_nat (m : Nat) (hm : m ≤ 40) : shl .i64 1 (m : Int) = ((2 ^ m : Nat) : Int) := shl_one m (by omega)
theorem chance_no (a b : ByteArray) (m : Int) : Ev (fun k => impl_ChanceAfter.j0 k a b m true) (0, 0, false) :=
  Ev.step (f := fun _ => some _) (fun k => by simp only [impl_ChanceAfter.j0]; rw [if_pos trivial]) (Ev.now _)
theorem chance_both (a b : ByteArray) (m : Int) : ∃ r, Ev (fun k => spec_ChanceAfter.f k a b m) r ∧ Ev (fun k => impl_ChanceAfter.f k a b m) r := by
  unfold spec_ChanceAfter.f impl_ChanceAfter.f
  rw [alike, isWalk, in_eq]
  simp only [obind]
  cases h1 : two a b with
  | false =>
    have hs : small a b m = false := by simp only [small, h1, Bool.false_and]
    exact ⟨(0, 0, false), Ev.bind (waSmall a b m) (by rw [hs]; exact Ev.now _), chance_no a b m⟩
  | true =>
    obtain ⟨p1, p2, p3⟩ := two_and h1
    obtain ⟨l0, l1, _⟩ := isSt_len p1
    obtain ⟨_, l2, _⟩ := isSt_len p2
    obtain ⟨g1, g2⟩ := topN_le l1
    have g3 := num_len h1
    have g4 := topN_pos l0
    rw [p1]
    by_cases h2 : a.data.toList.length ≤ 12
    · by_cases h3 : 0 ≤ m ∧ m ≤ 40
      · have hs : small a b m = true := by simp only [small, h1, h2, h3, decide_true, Bool.and_self, and_self]
        obtain ⟨M, rfl⟩ := Int.eq_ofNat_of_zero_le h3.1
        obtain ⟨r, r1, r2⟩ := low_any (walksOf 2 a b (M : Int)) (2 ^ M) (Nat.two_pow_pos _)
        have hl := walksL_length (topN a.data.toList) 2 M _ (startL_length (topN a.data.toList) (num a.data.toList))
        refine ⟨(r.1, r.2, true), ?_, ?_⟩
        · refine Ev.bind (waSmall a b M) ?_
          rw [hs]
          refine Ev.congr (fun k => if_pos rfl) (Ev.bind (waNumbers a b l1 l2) ?_)
          simp only [topN_eq]
          refine Ev.bind (waChances _ _ M g4 g1 g2 (by omega)) ?_
          refine Ev.congr (fun k => if_pos (by omega)) (Ev.congr (fun k => if_pos (by omega)) (Ev.congr (fun k => if_pos (by omega)) ?_))
          rw [pow_nat M (by omega)]
          exact Ev.bind r1 (Ev.now _)
        · refine Ev.congr (fun k => if_pos rfl) (Ev.congr (fun k => if_pos (by simpa using h2)) ?_)
          simp only [h3, and_self, decide_true, Bool.not_true]
          refine Ev.step (fun k => by simp only [impl_ChanceAfter.j0]; rw [if_neg (by simp)]) ?_
          refine Ev.bind (spread a p1 M (by omega) 2) (Ev.bind (number b p2) ?_)
          refine Ev.congr (fun k => if_pos (by omega)) (Ev.congr (fun k => if_pos (by omega)) (Ev.congr (fun k => if_pos (by omega)) ?_))
          rw [pow_nat M (by omega)]
          exact Ev.bind r2 (Ev.now _)
      · have hs : small a b m = false := by simp only [small, h3, decide_false, Bool.and_false]
        refine ⟨(0, 0, false), Ev.bind (waSmall a b m) (by rw [hs]; exact Ev.now _), ?_⟩
        refine Ev.congr (fun k => if_pos rfl) (Ev.congr (fun k => if_pos (by simpa using h2)) ?_)
        simp only [h3, decide_false, Bool.not_false]
        exact chance_no a b m
    · have hs : small a b m = false := by simp only [small, h2, decide_false, Bool.and_false, Bool.false_and]
      refine ⟨(0, 0, false), Ev.bind (waSmall a b m) (by rw [hs]; exact Ev.now _), ?_⟩
      refine Ev.congr (fun k => if_pos rfl) (Ev.congr (fun k => if_neg (by simpa using h2)) ?_)
      exact chance_no a b m
theorem FnExactChanceAfter : laws_FnExactChanceAfter.Pure := by
  intro a0 a1 a2 _ _ _
  by_cases h : (a0.size : Int) > 1048576
  · exact ⟨0, by unfold laws_FnExactChanceAfter.f; rw [if_pos h]⟩
  by_cases h' : (a1.size : Int) > 1048576
  · exact ⟨0, by unfold laws_FnExactChanceAfter.f; rw [if_neg h, if_pos h']⟩
  · refine Ev.rounds ?_
    unfold laws_FnExactChanceAfter.f
    simp only [if_neg h, if_neg h']
    obtain ⟨r, r1, r2⟩ := chance_both a0 a1 a2
    refine Ev.bind r1 (Ev.bind r2 ?_)
    exact Ev.congr (f := fun _ => some _) (fun k => same3 rfl) (Ev.now _)
end Go.Proofs.YtclidnndehbhjaaDoor.Pure
