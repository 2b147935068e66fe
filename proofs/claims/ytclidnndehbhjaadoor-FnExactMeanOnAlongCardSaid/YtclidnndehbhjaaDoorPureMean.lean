/-
  The pure statements of the laws on means: MeanToClear, MeanFrom.
-/
import Derived.Test.YtclidnndehbhjaaDoorLemWalk
namespace Go.Proofs.YtclidnndehbhjaaDoor.Pure
open Go.RowKit Go.Proofs.YtclidnndehbhjaaDoor.PA Go.Proofs.YtclidnndehbhjaaDoorW.PrintWords Go.Proofs.YtclidnndehbhjaaDoorW.PrintLast Go.Proofs.YtclidnndehbhjaaDoorW.PrintMore Go.Proofs.YtclidnndehbhjaaDoor.Ring Go.Proofs.YtclidnndehbhjaaDoor.Lem
set_option linter.unusedVariables false

theorem toClear_spec (s : ByteArray) : Ev (fun k => spec_MeanToClear.f k s) (if isSt s.data.toList = true then (meanZ (num s.data.toList) 0 (lastN s.data.toList), true) else (0, false)) := by
  unfold spec_MeanToClear.f
  refine Ev.bind (riGood s) ?_
  cases h : isSt s.data.toList with
  | false => exact Ev.now _
  | true =>
    obtain ⟨h1, h2, h3⟩ := isSt_len h
    obtain ⟨g1, g2, g3⟩ := lastN_le h2
    refine Ev.congr (fun k => if_pos rfl) (Ev.bind (riNumber s h2) ?_)
    refine Ev.congr (f := fun _ => some _) (fun k => ?_) (Ev.now _)
    rw [last_eq s h2, waMean (by omega) g3 (by omega) g1 (by omega)]
    rfl
theorem toClear_impl (s : ByteArray) : Ev (fun k => impl_MeanToClear.f k s) (if isSt s.data.toList = true then (meanZ (num s.data.toList) 0 (lastN s.data.toList), true) else (0, false)) := by
  unfold impl_MeanToClear.f
  rw [isState]
  simp only [obind]
  cases h : isSt s.data.toList with
  | false => exact Ev.now _
  | true =>
    obtain ⟨h1, h2, h3⟩ := isSt_len h
    obtain ⟨g1, g2, g3⟩ := lastN_le h2
    refine Ev.congr (fun k => if_pos rfl) (Ev.bind (number s h) ?_)
    refine Ev.congr (f := fun _ => some _) (fun k => ?_) (Ev.now _)
    rw [last_eq s h2, mean (by omega) g3 (by omega) g1 (by omega)]
    rfl
theorem FnExactMeanToClear : laws_FnExactMeanToClear.Pure := by
  intro a0 _
  by_cases h : (a0.size : Int) > 1048576
  · exact ⟨0, by unfold laws_FnExactMeanToClear.f; rw [if_pos h]⟩
  · refine Ev.rounds ?_
    unfold laws_FnExactMeanToClear.f
    simp only [if_neg h]
    refine Ev.bind (toClear_spec a0) (Ev.bind (toClear_impl a0) ?_)
    exact Ev.congr (f := fun _ => some _) (fun k => same2 rfl) (Ev.now _)

theorem waNumbers (a b : ByteArray) (ha : a.data.toList.length ≤ 20) (hb : b.data.toList.length ≤ 20) : Ev (fun k => spec_waNumbers.f k a b) ((num a.data.toList : Int), (num b.data.toList : Int), lastN a.data.toList) := by
  unfold spec_waNumbers.f
  refine Ev.bind (riNumber a ha) (Ev.bind (riNumber b hb) ?_)
  refine Ev.congr (f := fun _ => some _) (fun k => ?_) (Ev.now _)
  rw [last_eq a ha]
theorem two_and {a b : ByteArray} (h : two a b = true) : isSt a.data.toList = true ∧ isSt b.data.toList = true ∧ a.data.toList.length = b.data.toList.length := by
  simpa [two, and_assoc] using h
theorem from_spec (a b : ByteArray) : Ev (fun k => spec_MeanFrom.f k a b) (if two a b = true then (meanZ (num a.data.toList) (num b.data.toList) (lastN a.data.toList), true) else (0, false)) := by
  unfold spec_MeanFrom.f
  refine Ev.bind (riTwo a b) ?_
  cases h : two a b with
  | false => exact Ev.now _
  | true =>
    obtain ⟨h1, h2, h3⟩ := two_and h
    obtain ⟨_, l1, _⟩ := isSt_len h1
    obtain ⟨_, l2, _⟩ := isSt_len h2
    obtain ⟨g1, g2, g3⟩ := lastN_le l1
    obtain ⟨_, _, g4⟩ := lastN_le l2
    have e : lastN b.data.toList = lastN a.data.toList := by unfold lastN; rw [h3]
    refine Ev.congr (fun k => if_pos rfl) (Ev.bind (waNumbers a b l1 l2) ?_)
    refine Ev.congr (f := fun _ => some _) (fun k => ?_) (Ev.now _)
    rw [waMean (b := (num b.data.toList : Int)) (by omega) g3 (by omega) (by omega) (by omega)]
    rfl
theorem from_impl (a b : ByteArray) : Ev (fun k => impl_MeanFrom.f k a b) (if two a b = true then (meanZ (num a.data.toList) (num b.data.toList) (lastN a.data.toList), true) else (0, false)) := by
  unfold impl_MeanFrom.f
  rw [alike]
  simp only [obind]
  cases h : two a b with
  | false => exact Ev.now _
  | true =>
    obtain ⟨h1, h2, h3⟩ := two_and h
    obtain ⟨_, l1, _⟩ := isSt_len h1
    obtain ⟨_, l2, _⟩ := isSt_len h2
    obtain ⟨g1, g2, g3⟩ := lastN_le l1
    obtain ⟨_, _, g4⟩ := lastN_le l2
    have e : lastN b.data.toList = lastN a.data.toList := by unfold lastN; rw [h3]
    refine Ev.congr (fun k => if_pos rfl) (Ev.bind (number a h1) (Ev.bind (number b h2) ?_))
    refine Ev.congr (f := fun _ => some _) (fun k => ?_) (Ev.now _)
    rw [last_eq a l1, mean (b := (num b.data.toList : Int)) (by omega) g3 (by omega) (by omega) (by omega)]
    rfl
theorem FnExactMeanFrom : laws_FnExactMeanFrom.Pure := by
  intro a0 a1 _ _
  by_cases h : (a0.size : Int) > 1048576
  · exact ⟨0, by unfold laws_FnExactMeanFrom.f; rw [if_pos h]⟩
  by_cases h' : (a1.size : Int) > 1048576
  · exact ⟨0, by unfold laws_FnExactMeanFrom.f; rw [if_neg h, if_pos h']⟩
  · refine Ev.rounds ?_
    unfold laws_FnExactMeanFrom.f
    simp only [if_neg h, if_neg h']
    refine Ev.bind (from_spec a0 a1) (Ev.bind (from_impl a0 a1) ?_)
    exact Ev.congr (f := fun _ => some _) (fun k => same2 rfl) (Ev.now _)
end Go.Proofs.YtclidnndehbhjaaDoor.Pure
