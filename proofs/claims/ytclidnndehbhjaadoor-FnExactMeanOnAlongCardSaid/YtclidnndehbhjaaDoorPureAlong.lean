/-
  The pure statement of the law on MeanOnAlong.
-/
import Derived.Test.YtclidnndehbhjaaDoorPureWalks
namespace Go.Proofs.YtclidnndehbhjaaDoor.Pure
open Go.RowKit Go.Proofs.YtclidnndehbhjaaDoor.PA Go.Proofs.YtclidnndehbhjaaDoorW.PrintWords Go.Proofs.YtclidnndehbhjaaDoorW.PrintLast Go.Proofs.YtclidnndehbhjaaDoorW.PrintMore Go.Proofs.YtclidnndehbhjaaDoor.Ring Go.Proofs.YtclidnndehbhjaaDoor.Lem
set_option linter.unusedVariables false

/-- How many rings are on in d states from one on, together. -/
def onSum (r : Nat) : Nat → Nat → Nat
  | 0, _ => 0
  | d + 1, n => ones (stOf r n) + onSum r d (n + 1)
theorem ones_le (l : List UInt8) : ones l ≤ l.length := List.count_le_length
theorem onSum_le (r : Nat) : ∀ d n, onSum r d n ≤ d * r
  | 0, _ => by simp [onSum]
  | d + 1, n => by
    have h1 := onSum_le r d (n + 1)
    have h2 := ones_le (stOf r n)
    rw [stOf_length] at h2
    rw [onSum, Nat.succ_mul]
    omega
theorem on_size (r n : Nat) : (⟨(stOf r n).toArray⟩ : ByteArray).size = r := by rw [size_eq]; simp [stOf_length]
theorem along_spec_l0 (x0 : ByteArray) (r x y : Nat) (hr : x0.size = r) (hr1 : 1 ≤ r) (hr2 : r ≤ 12) (hx : x < 1048576) (hy : y < 1048576) (q : Int × Int) : ∀ (d n s : Nat), n + d = max x y + 1 → min x y ≤ n → s + d * 12 ≤ 100000000 →
    Ev (fun k => spec_waLow.f k ((s + onSum r d n : Nat) : Int) ((dist x y + 1 : Nat) : Int)) q →
    Ev (fun k => spec_MeanOnAlong.l0 k x0 (x : Int) (y : Int) (s : Int) (n : Int)) (q.1, q.2, true) := by
  intro d
  induction d with
  | zero =>
    intro n s hd hn hs h
    have em : spec_l1Most.f (x : Int) (y : Int) = some (((max x y : Nat)) : Int) := by
      unfold spec_l1Most.f
      split <;> (congr 1; omega)
    refine Ev.step (f := fun k => (spec_waLow.f k (s : Int) ((dist x y + 1 : Nat) : Int)).bind fun bt265 => some (bt265.1, bt265.2, true)) (fun k => ?_) (Ev.bind h (Ev.now _))
    simp only [spec_MeanOnAlong.l0]
    rw [em, obind, if_neg (by omega), l1Abs hx hy, obind]
    have e : wrap64 ((dist x y : Int) + 1) = ((dist x y + 1 : Nat) : Int) := by
      have : dist x y < 1048576 := by unfold dist; omega
      rw [w64 (by omega) (by omega)]; omega
    rw [e]
  | succ d ih =>
    intro n s hd hn hs h
    have em : spec_l1Most.f (x : Int) (y : Int) = some (((max x y : Nat)) : Int) := by
      unfold spec_l1Most.f
      split <;> (congr 1; omega)
    have ho := ones_le (stOf r n)
    rw [stOf_length] at ho
    have h2 := ih (n + 1) (s + ones (stOf r n)) (by omega) (by omega) (by omega) (by rw [onSum, ← Nat.add_assoc] at h; exact h)
    refine Ev.step (f := fun k => (spec_riState.f k (r : Int) (n : Int)).bind fun t262 => ((spec_riOn.f k t262).bind fun t263 => (spec_MeanOnAlong.l0 k x0 (x : Int) (y : Int) (wrap64 ((s : Int) + t263)) (wrap64 ((n : Int) + 1))))) (fun k => ?_) ?_
    · simp only [spec_MeanOnAlong.l0]
      rw [em, obind, if_pos (by omega), hr]
    · refine Ev.bind (riState r n (by omega) (by omega)) (Ev.bind (riOn _ (by rw [on_size]; omega)) ?_)
      have e1 : wrap64 ((s : Int) + (ones (stOf r n) : Int)) = ((s + ones (stOf r n) : Nat) : Int) := by rw [w64 (by omega) (by omega)]; omega
      have e2 : wrap64 ((n : Int) + 1) = ((n + 1 : Nat) : Int) := by rw [w64 (by omega) (by omega)]; omega
      have e3 : ((⟨(stOf r n).toArray⟩ : ByteArray).data.toList) = stOf r n := by simp
      rw [e3, e1, e2]
      exact h2
theorem along_impl_l0 (x0 : ByteArray) (r x y : Nat) (hr : x0.size = r) (hr1 : 1 ≤ r) (hr2 : r ≤ 12) (hx : x < 1048576) (hy : y < 1048576) (q : Int × Int) : ∀ (d n s : Nat), n + d = max x y + 1 → min x y ≤ n → s + d * 12 ≤ 100000000 →
    Ev (fun k => impl_lowest.f k ((s + onSum r d n : Nat) : Int) ((dist x y + 1 : Nat) : Int)) q →
    Ev (fun k => impl_MeanOnAlong.l0 k x0 ((min x y : Nat) : Int) ((max x y : Nat) : Int) (s : Int) (n : Int)) (q.1, q.2, true) := by
  intro d
  induction d with
  | zero =>
    intro n s hd hn hs h
    refine Ev.step (f := fun k => (impl_lowest.f k (s : Int) ((dist x y + 1 : Nat) : Int)).bind fun bt265 => some (bt265.1, bt265.2, true)) (fun k => ?_) (Ev.bind h (Ev.now _))
    simp only [impl_MeanOnAlong.l0]
    have e0 : wrap64 (((max x y : Nat) : Int) - ((min x y : Nat) : Int)) = (dist x y : Int) := by
      rw [w64 (by omega) (by omega)]; unfold dist; omega
    have e : wrap64 ((dist x y : Int) + 1) = ((dist x y + 1 : Nat) : Int) := by
      have : dist x y < 1048576 := by unfold dist; omega
      rw [w64 (by omega) (by omega)]; omega
    rw [if_neg (by omega), e0, e]
  | succ d ih =>
    intro n s hd hn hs h
    have ho := ones_le (stOf r n)
    rw [stOf_length] at ho
    have h2 := ih (n + 1) (s + ones (stOf r n)) (by omega) (by omega) (by omega) (by rw [onSum, ← Nat.add_assoc] at h; exact h)
    refine Ev.step (f := fun k => (impl_state.f k (r : Int) (n : Int)).bind fun t279 => ((impl_CountOn.f t279).bind fun bt280 => (impl_MeanOnAlong.l0 k x0 ((min x y : Nat) : Int) ((max x y : Nat) : Int) (wrap64 ((s : Int) + bt280.1)) (wrap64 ((n : Int) + 1))))) (fun k => ?_) ?_
    · simp only [impl_MeanOnAlong.l0]
      rw [if_pos (by omega), hr]
    · refine Ev.bind (state r n (by omega) (by omega)) ?_
      have e3 : ((⟨(stOf r n).toArray⟩ : ByteArray).data.toList) = stOf r n := by simp
      have hst : isSt (stOf r n) = true := by
        unfold isSt
        rw [stOf_length, stOf_ok]
        simp
        omega
      rw [countOn _ (by rw [e3]; exact hst)]
      simp only [obind]
      have e1 : wrap64 ((s : Int) + (ones (stOf r n) : Int)) = ((s + ones (stOf r n) : Nat) : Int) := by rw [w64 (by omega) (by omega)]; omega
      have e2 : wrap64 ((n : Int) + 1) = ((n + 1 : Nat) : Int) := by rw [w64 (by omega) (by omega)]; omega
      rw [e1, e2]
      exact h2
theorem along_no_spec (a b : ByteArray) : Ev (fun k => spec_MeanOnAlong.j0 k a b true) (0, 0, false) :=
  Ev.step (f := fun _ => some _) (fun k => by simp only [spec_MeanOnAlong.j0]; rw [if_pos trivial]) (Ev.now _)
theorem along_no_impl (a b : ByteArray) : Ev (fun k => impl_MeanOnAlong.j0 k a b true) (0, 0, false) :=
  Ev.step (f := fun _ => some _) (fun k => by simp only [impl_MeanOnAlong.j0]; rw [if_pos trivial]) (Ev.now _)
theorem along_both (a b : ByteArray) : ∃ r, Ev (fun k => spec_MeanOnAlong.f k a b) r ∧ Ev (fun k => impl_MeanOnAlong.f k a b) r := by
  unfold spec_MeanOnAlong.f impl_MeanOnAlong.f
  rw [alike, isWalk]
  simp only [obind]
  cases h1 : two a b with
  | false =>
    refine ⟨(0, 0, false), Ev.bind (riTwo a b) ?_, along_no_impl a b⟩
    rw [h1]
    exact along_no_spec a b
  | true =>
    obtain ⟨p1, p2, p3⟩ := two_and h1
    obtain ⟨l0, l1, _⟩ := isSt_len p1
    obtain ⟨_, l2, _⟩ := isSt_len p2
    have b1 := num_le l1
    have b2 := num_le l2
    rw [p1]
    by_cases h2 : a.data.toList.length ≤ 12
    · have hs : a.size = a.data.toList.length := size_eq a
      have c1 : num a.data.toList < 4096 := Nat.lt_of_lt_of_le (num_lt _) (Nat.pow_le_pow_right (n := 2) (by decide) h2)
      have c2 : num b.data.toList < 4096 := by have h := num_lt b.data.toList; rw [← p3] at h; exact Nat.lt_of_lt_of_le h (Nat.pow_le_pow_right (n := 2) (by decide) h2)
      generalize hx : num a.data.toList = x at *
      generalize hy : num b.data.toList = y at *
      obtain ⟨r, r1, r2⟩ := low_any ((0 + onSum a.data.toList.length (dist x y + 1) (min x y) : Nat) : Int) (dist x y + 1) (by omega)
      have hd : dist x y < 4096 := by unfold dist; omega
      have he : min x y + (dist x y + 1) = max x y + 1 := by unfold dist; omega
      refine ⟨(r.1, r.2, true), ?_, ?_⟩
      · refine Ev.bind (riTwo a b) ?_
        rw [h1]
        refine Ev.congr (fun k => if_pos rfl) ?_
        rw [decide_eq_false (show ¬ (a.size : Int) > 12 by omega)]
        refine Ev.step (fun k => by simp only [spec_MeanOnAlong.j0]; rw [if_neg (by simp)]) ?_
        refine Ev.bind (waNumbers a b l1 l2) ?_
        simp only [hx, hy]
        have el : spec_l1Least.f (x : Int) (y : Int) = some ((min x y : Nat) : Int) := by
          unfold spec_l1Least.f
          split <;> (congr 1; omega)
        rw [el]
        simp only [obind]
        exact along_spec_l0 a _ x y hs l0 h2 b1 b2 r (dist x y + 1) (min x y) 0 he (by omega) (by omega) r1
      · refine Ev.congr (fun k => if_pos rfl) ?_
        simp only [h2, decide_true, Bool.and_true, Bool.not_true]
        refine Ev.step (fun k => by simp only [impl_MeanOnAlong.j0]; rw [if_neg (by simp)]) ?_
        have na := number a p1
        have nb := number b p2
        rw [hx] at na
        rw [hy] at nb
        refine Ev.bind na (Ev.bind nb (Ev.bind na (Ev.bind nb ?_)))
        have e1 : mn (x : Int) (y : Int) = ((min x y : Nat) : Int) := by unfold mn; split <;> omega
        have e2 : mx (x : Int) (y : Int) = ((max x y : Nat) : Int) := by unfold mx; split <;> omega
        rw [e1, e2]
        exact along_impl_l0 a _ x y hs l0 h2 b1 b2 r (dist x y + 1) (min x y) 0 he (by omega) (by omega) r2
    · refine ⟨(0, 0, false), ?_, ?_⟩
      · refine Ev.bind (riTwo a b) ?_
        rw [h1]
        refine Ev.congr (fun k => if_pos rfl) ?_
        rw [decide_eq_true (show (a.size : Int) > 12 by rw [size_eq]; omega)]
        exact along_no_spec a b
      · refine Ev.congr (fun k => if_pos rfl) ?_
        simp only [h2, decide_false, Bool.and_false, Bool.not_false]
        exact along_no_impl a b
theorem FnExactMeanOnAlong : laws_FnExactMeanOnAlong.Pure := by
  intro a0 a1 _ _
  by_cases h : (a0.size : Int) > 1048576
  · exact ⟨0, by unfold laws_FnExactMeanOnAlong.f; rw [if_pos h]⟩
  by_cases h' : (a1.size : Int) > 1048576
  · exact ⟨0, by unfold laws_FnExactMeanOnAlong.f; rw [if_neg h, if_pos h']⟩
  · refine Ev.rounds ?_
    unfold laws_FnExactMeanOnAlong.f
    simp only [if_neg h, if_neg h']
    obtain ⟨r, r1, r2⟩ := along_both a0 a1
    refine Ev.bind r1 (Ev.bind r2 ?_)
    exact Ev.congr (f := fun _ => some _) (fun k => same3 rfl) (Ev.now _)
end Go.Proofs.YtclidnndehbhjaaDoor.Pure
