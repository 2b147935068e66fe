/-
  The pure statement of the law on ChanceBefore.
-/
import Derived.Test.YtclidnndehbhjaaDoorLemLow
import Derived.Test.YtclidnndehbhjaaDoorPureMean
namespace Go.Proofs.YtclidnndehbhjaaDoor.Pure
open Go.RowKit Go.Proofs.YtclidnndehbhjaaDoor.PA Go.Proofs.YtclidnndehbhjaaDoorW.PrintWords Go.Proofs.YtclidnndehbhjaaDoorW.PrintLast Go.Proofs.YtclidnndehbhjaaDoorW.PrintMore Go.Proofs.YtclidnndehbhjaaDoor.Ring Go.Proofs.YtclidnndehbhjaaDoor.Lem
set_option linter.unusedVariables false

/-- The chance, of numbers. -/
def chance (n x y : Nat) : Int × Int × Bool :=
  if dist n x + dist n y = dist x y then ((low (dist n y) (dist x y)).1, (low (dist n y) (dist x y)).2, true) else if dist n x < dist n y then (1, 1, true) else (0, 1, true)
theorem before_tail (n x y : Nat) (b1 : n < 1048576) (b2 : x < 1048576) (b3 : y < 1048576) (hne : x ≠ y) (a b : Option Int) (c : Option Int) (ha : a = some (dist x y : Int)) (hb : b = some (dist n y : Int)) (hc : c = some (dist n x : Int)) :
    Ev (fun k => a.bind fun t150 => (b.bind fun t151 => (c.bind fun t152 => (if (wrap64 (t152 + t151)) = t150 then ((impl_lowest.f k t151 t150).bind fun bt153 => (some (bt153.1, bt153.2, true))) else (c.bind fun t155 => (if t155 < t151 then (some (1, 1, true)) else (some (0, 1, true)))))))) (chance n x y) := by
  have d1 : dist x y < 1048576 := by unfold dist; omega
  have d2 : dist n x < 1048576 := by unfold dist; omega
  have d3 : dist n y < 1048576 := by unfold dist; omega
  have d4 : 0 < dist x y := by unfold dist; omega
  unfold chance
  subst ha hb hc
  generalize dist x y = p at *
  generalize dist n x = q at *
  generalize dist n y = r at *
  have ew : wrap64 ((q : Int) + (r : Int)) = (q : Int) + (r : Int) := w64 (by omega) (by omega)
  by_cases h : q + r = p
  · rw [if_pos h]
    refine Ev.congr (f := fun k => (impl_lowest.f k (r : Int) (p : Int)).bind fun bt153 => (some (bt153.1, bt153.2, true))) (fun k => ?_) (Ev.bind (lowest _ _ (by omega) (by omega) d4) (Ev.now _))
    simp only [obind]
    rw [ew, if_pos (by omega)]
  · rw [if_neg h]
    refine Ev.congr (f := fun k => some _) (fun k => ?_) (Ev.now _)
    simp only [obind]
    rw [ew, if_neg (by omega)]
    by_cases h2 : q < r
    · rw [if_pos h2, if_pos (by omega)]
    · rw [if_neg h2, if_neg (by omega)]
theorem before_impl0 (s a b : ByteArray) (hs : isSt s.data.toList = true) (ha : isSt a.data.toList = true) (hb : isSt b.data.toList = true) (hne : num a.data.toList ≠ num b.data.toList) :
    Ev (fun k => impl_ChanceBefore.j0 k s a b false) (chance (num s.data.toList) (num a.data.toList) (num b.data.toList)) := by
  obtain ⟨_, l1, _⟩ := isSt_len hs
  obtain ⟨_, l2, _⟩ := isSt_len ha
  obtain ⟨_, l3, _⟩ := isSt_len hb
  have b1 := num_le l1
  have b2 := num_le l2
  have b3 := num_le l3
  refine Ev.step (fun k => by simp only [impl_ChanceBefore.j0]; rw [if_neg (by simp)]) ?_
  refine Ev.bind (number s hs) (Ev.bind (number a ha) (Ev.bind (number b hb) ?_))
  exact before_tail _ _ _ b1 b2 b3 hne _ _ _ (apart b2 b3) (apart b1 b3) (apart b1 b2)
theorem before_j1 (n x y : Nat) (hn : n < 1048576) (hx : x < 1048576) (hy : y < 1048576) (hne : x ≠ y) (b1 b2 : Bool) (h1 : b1 = decide ((n ≤ x ∧ x < y) ∨ (n ≥ x ∧ x > y))) :
    Ev (fun k => spec_ChanceBefore.j1 k (n : Int) (x : Int) (y : Int) b1) (chance n x y) := by
  have d4 : 0 < dist x y := by unfold dist; omega
  have last : ∀ b : Bool, b = decide ((n ≤ y ∧ y < x) ∨ (n ≥ y ∧ y > x)) → b1 = false → Ev (fun k => spec_ChanceBefore.j2 k (n : Int) (x : Int) (y : Int) b) (chance n x y) := by
    intro b hb hb1
    rw [hb1] at h1
    have h1' := of_decide_eq_false h1.symm
    cases b with
    | true =>
      have hb' := of_decide_eq_true hb.symm
      refine Ev.step (fun k => by simp only [spec_ChanceBefore.j2]; rw [if_pos trivial]) ?_
      have e : chance n x y = (0, 1, true) := by
        unfold chance
        by_cases h : dist n x + dist n y = dist x y
        · have e : n = y := by unfold dist at h; omega
          rw [if_pos h]
          have e2 : dist n y = 0 := by unfold dist; omega
          rw [e2, low_zero d4]
        · rw [if_neg h, if_neg (by unfold dist; omega)]
      rw [e]
      exact Ev.now _
    | false =>
      have hb' := of_decide_eq_false hb.symm
      refine Ev.step (fun k => by simp only [spec_ChanceBefore.j2]; rw [if_neg (by simp)]) ?_
      have e : dist n x + dist n y = dist x y := by unfold dist; omega
      have d1 : dist y x < 1048576 := by unfold dist; omega
      have d2 : dist y n < 1048576 := by unfold dist; omega
      have c1 : dist y n = dist n y := by unfold dist; omega
      have c2 : dist y x = dist x y := by unfold dist; omega
      simp only [l1Abs hy hn, l1Abs hy hx, obind]
      unfold chance
      rw [if_pos e, c1, c2]
      exact Ev.bind (waLow _ _ (by omega) (by omega) d4) (Ev.now _)
  cases b1 with
  | true =>
    have h1' := of_decide_eq_true h1.symm
    refine Ev.step (fun k => by simp only [spec_ChanceBefore.j1]; rw [if_pos trivial]) ?_
    have e : chance n x y = (1, 1, true) := by
      unfold chance
      by_cases h : dist n x + dist n y = dist x y
      · have e : n = x := by unfold dist at h; omega
        rw [if_pos h, e, low_self d4]
      · rw [if_neg h, if_pos (by unfold dist; omega)]
    rw [e]
    exact Ev.now _
  | false =>
    have h1' := of_decide_eq_false h1.symm
    refine Ev.step (fun k => by simp only [spec_ChanceBefore.j1]; rw [if_neg (by simp)]) ?_
    by_cases c1 : n ≤ y
    · refine Ev.congr (fun k => if_pos (by omega)) ?_
      by_cases c2 : y < x
      · refine Ev.congr (fun k => if_pos (by omega)) ?_
        exact last _ (by simp [c1, c2]) rfl
      · refine Ev.congr (fun k => if_neg (by omega)) ?_
        by_cases c3 : n ≥ y
        · refine Ev.congr (fun k => if_pos (by omega)) ?_
          exact last _ (by rw [Bool.eq_iff_iff]; simp only [decide_eq_true_eq]; omega) rfl
        · refine Ev.congr (fun k => if_neg (by omega)) ?_
          exact last _ (by symm; rw [decide_eq_false_iff_not]; omega) rfl
    · refine Ev.congr (fun k => if_neg (by omega)) ?_
      by_cases c3 : n ≥ y
      · refine Ev.congr (fun k => if_pos (by omega)) ?_
        exact last _ (by rw [Bool.eq_iff_iff]; simp only [decide_eq_true_eq]; omega) rfl
      · omega
theorem before_spec0 (s a b : ByteArray) (hs : isSt s.data.toList = true) (ha : isSt a.data.toList = true) (hb : isSt b.data.toList = true) (hne : num a.data.toList ≠ num b.data.toList) :
    Ev (fun k => spec_ChanceBefore.j0 k s a b false) (chance (num s.data.toList) (num a.data.toList) (num b.data.toList)) := by
  obtain ⟨_, l1, _⟩ := isSt_len hs
  obtain ⟨_, l2, _⟩ := isSt_len ha
  obtain ⟨_, l3, _⟩ := isSt_len hb
  have b1 := num_le l1
  have b2 := num_le l2
  have b3 := num_le l3
  refine Ev.step (fun k => by simp only [spec_ChanceBefore.j0]; rw [if_neg (by simp)]) ?_
  refine Ev.bind (riNumber s l1) (Ev.bind (riNumber a l2) (Ev.bind (riNumber b l3) ?_))
  generalize num s.data.toList = n at *
  generalize num a.data.toList = x at *
  generalize num b.data.toList = y at *
  by_cases c1 : n ≤ x
  · refine Ev.congr (fun k => if_pos (by omega)) ?_
    by_cases c2 : x < y
    · refine Ev.congr (fun k => if_pos (by omega)) ?_
      exact before_j1 n x y b1 b2 b3 hne _ false (by simp [c1, c2])
    · refine Ev.congr (fun k => if_neg (by omega)) ?_
      by_cases c3 : n ≥ x
      · refine Ev.congr (fun k => if_pos (by omega)) ?_
        exact before_j1 n x y b1 b2 b3 hne _ false (by rw [Bool.eq_iff_iff]; simp only [decide_eq_true_eq]; omega)
      · refine Ev.congr (fun k => if_neg (by omega)) ?_
        exact before_j1 n x y b1 b2 b3 hne _ false (by symm; rw [decide_eq_false_iff_not]; omega)
  · refine Ev.congr (fun k => if_neg (by omega)) ?_
    by_cases c3 : n ≥ x
    · refine Ev.congr (fun k => if_pos (by omega)) ?_
      exact before_j1 n x y b1 b2 b3 hne _ false (by rw [Bool.eq_iff_iff]; simp only [decide_eq_true_eq]; omega)
    · omega
theorem toList_beq (a b : ByteArray) : (a.toList == b.toList) = decide (a.data.toList = b.data.toList) := by
  rw [Lib.toList_data, Lib.toList_data]
  rw [Bool.eq_iff_iff]
  simp
theorem before_no_spec (s a b : ByteArray) : Ev (fun k => spec_ChanceBefore.j0 k s a b true) (0, 0, false) :=
  Ev.step (f := fun _ => some _) (fun k => by simp only [spec_ChanceBefore.j0]; rw [if_pos trivial]) (Ev.now _)
theorem before_no_impl (s a b : ByteArray) : Ev (fun k => impl_ChanceBefore.j0 k s a b true) (0, 0, false) :=
  Ev.step (f := fun _ => some _) (fun k => by simp only [impl_ChanceBefore.j0]; rw [if_pos trivial]) (Ev.now _)
/-- Three states of as many rings, the last two different. -/
def asked (s a b : ByteArray) : Bool := two s a && two s b && decide (a.data.toList ≠ b.data.toList)
def beforeR (s a b : ByteArray) : Int × Int × Bool := if asked s a b = true then chance (num s.data.toList) (num a.data.toList) (num b.data.toList) else (0, 0, false)
theorem asked_num {s a b : ByteArray} (h1 : two s a = true) (h2 : two s b = true) (h3 : a.data.toList ≠ b.data.toList) : num a.data.toList ≠ num b.data.toList := by
  obtain ⟨p1, p2, p3⟩ := two_and h1
  obtain ⟨q1, q2, q3⟩ := two_and h2
  exact fun e => h3 (num_inj (isSt_len p2).2.2 (isSt_len q2).2.2 (by omega) e)
theorem before_spec (s a b : ByteArray) : Ev (fun k => spec_ChanceBefore.f k s a b) (beforeR s a b) := by
  unfold spec_ChanceBefore.f beforeR asked
  refine Ev.bind (riTwo s a) ?_
  cases h1 : two s a with
  | false => exact before_no_spec s a b
  | true =>
    refine Ev.congr (fun k => if_pos rfl) (Ev.bind (riTwo s b) ?_)
    cases h2 : two s b with
    | false => exact before_no_spec s a b
    | true =>
      refine Ev.congr (fun k => if_pos rfl) ?_
      rw [toList_beq]
      by_cases h3 : a.data.toList = b.data.toList
      · simp only [h3, decide_true, ne_eq, not_true_eq_false, decide_false, Bool.and_false]
        exact before_no_spec s a b
      · simp only [h3, decide_false, ne_eq, not_false_eq_true, decide_true, Bool.and_true]
        exact before_spec0 s a b (two_and h1).1 (two_and h1).2.1 (two_and h2).2.1 (asked_num h1 h2 h3)
theorem two_third {s a b : ByteArray} (h1 : two s a = true) : two a b = two s b := by
  obtain ⟨p1, p2, p3⟩ := two_and h1
  unfold two
  rw [p1, p2, p3]
theorem before_impl (s a b : ByteArray) : Ev (fun k => impl_ChanceBefore.f k s a b) (beforeR s a b) := by
  unfold impl_ChanceBefore.f beforeR asked
  rw [alike, alike]
  simp only [obind]
  cases h1 : two s a with
  | false => exact before_no_impl s a b
  | true =>
    rw [two_third h1]
    refine Ev.congr (fun k => if_pos rfl) ?_
    cases h2 : two s b with
    | false => exact before_no_impl s a b
    | true =>
      refine Ev.congr (fun k => if_pos rfl) ?_
      rw [toList_beq]
      by_cases h3 : a.data.toList = b.data.toList
      · simp only [h3, decide_true, ne_eq, not_true_eq_false, decide_false, Bool.and_false]
        exact before_no_impl s a b
      · simp only [h3, decide_false, ne_eq, not_false_eq_true, decide_true, Bool.and_true]
        exact before_impl0 s a b (two_and h1).1 (two_and h1).2.1 (two_and h2).2.1 (asked_num h1 h2 h3)
theorem FnExactChanceBefore : laws_FnExactChanceBefore.Pure := by
  intro a0 a1 a2 _ _ _
  by_cases h : (a0.size : Int) > 1048576
  · exact ⟨0, by unfold laws_FnExactChanceBefore.f; rw [if_pos h]⟩
  by_cases h' : (a1.size : Int) > 1048576
  · exact ⟨0, by unfold laws_FnExactChanceBefore.f; rw [if_neg h, if_pos h']⟩
  by_cases h'' : (a2.size : Int) > 1048576
  · exact ⟨0, by unfold laws_FnExactChanceBefore.f; rw [if_neg h, if_neg h', if_pos h'']⟩
  · refine Ev.rounds ?_
    unfold laws_FnExactChanceBefore.f
    simp only [if_neg h, if_neg h', if_neg h'']
    refine Ev.bind (before_spec a0 a1 a2) (Ev.bind (before_impl a0 a1 a2) ?_)
    exact Ev.congr (f := fun _ => some _) (fun k => same3 rfl) (Ev.now _)
end Go.Proofs.YtclidnndehbhjaaDoor.Pure
