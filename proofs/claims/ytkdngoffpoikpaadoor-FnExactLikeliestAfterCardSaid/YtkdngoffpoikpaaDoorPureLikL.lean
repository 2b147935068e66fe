/-
  The pure statement of the law on LikeliestAfter.
-/
import Derived.Test.YtkdngoffpoikpaaDoorLemLikPickL
import Derived.Test.YtkdngoffpoikpaaDoorLemStrSL
namespace Go.Proofs.YtkdngoffpoikpaaDoor.Pure
open Go.RowKit Go.Proofs.YtkdngoffpoikpaaDoor.PL Go.Proofs.YtkdngoffpoikpaaDoorW.PrintWords Go.Proofs.YtkdngoffpoikpaaDoorW.PrintLast Go.Proofs.YtkdngoffpoikpaaDoorW.PrintMore Go.Proofs.YtkdngoffpoikpaaDoor.Ring Go.Proofs.YtkdngoffpoikpaaDoor.Lem
set_option linter.unusedVariables false
def gF (L : List Int) (n : Nat) : Int := rd L (n : Int)
def isTop (L : List Int) (x : Int) (n : Nat) : Bool := gF L n == x
theorem lik_l1 (x0 : ByteArray) (r : Nat) (hr : r ≤ 12) (hx : x0.data.toList.length = r) (L : List Int) (hL : L.length = 2 ^ r) (x : Int) : ∀ (d n : Nat), n + d = 2 ^ r →
    Ev (fun k => spec_LikeliestAfter.l1 k x0 x (pickT r (isTop L x) n) L ((2 ^ r : Nat) : Int) (n : Int)) (pickT r (isTop L x) (2 ^ r), true) := by
  intro d
  have h4096 := pow12 hr
  induction d with
  | zero =>
    intro n hd
    have hn : n = 2 ^ r := by omega
    refine Ev.step (f := fun _ => some (pickT r (isTop L x) (2 ^ r), true)) (fun k => ?_) (Ev.now _)
    simp only [spec_LikeliestAfter.l1]
    rw [hn, if_neg (Int.lt_irrefl _)]
  | succ d ih =>
    intro n hd
    have hlt : n < 2 ^ r := by omega
    have h2 := ih (n + 1) (by omega)
    have hl := pickT_len r (isTop L x) n
    have hlt' : (n : Int) < ((2 ^ r : Nat) : Int) := Int.ofNat_lt.2 hlt
    have hltL : (n : Int) < (L.length : Int) := by rw [hL]; exact hlt'
    have hs1 : wrap64 ((n : Int) + 1) = ((n + 1 : Nat) : Int) := succ64 (by omega)
    rw [pickT_succ] at h2
    by_cases h : rd L (n : Int) = x
    · rw [if_pos (by simpa [isTop, gF] using h)] at h2
      have hst := riState r n (by omega) (by omega)
      refine ev_num hst h2 (fun k hk => ?_)
      simp only [spec_LikeliestAfter.l1]
      rw [if_pos hlt', if_pos (Int.natCast_nonneg _), if_pos hltL, if_pos h, size_eq, hx, hk, obind, if_pos (by omega), hs1]
      rfl
    · rw [if_neg (by simpa [isTop, gF] using h)] at h2
      refine Ev.step (fun k => ?_) h2
      simp only [spec_LikeliestAfter.l1]
      rw [if_pos hlt', if_pos (Int.natCast_nonneg _), if_pos hltL, if_neg h, hs1]
theorem lik_l0 (x0 : ByteArray) (r : Nat) (hr : r ≤ 12) (hx : x0.data.toList.length = r) (L : List Int) (hL : L.length = 2 ^ r) : ∀ (d n : Nat), n + d = 2 ^ r →
    Ev (fun k => spec_LikeliestAfter.l0 k x0 L (topU (gF L) 0 n) L ((2 ^ r : Nat) : Int) (n : Int)) (pickT r (isTop L (topU (gF L) 0 (2 ^ r))) (2 ^ r), true) ∧
    Ev (fun k => impl_LikeliestAfter.l0 k L (topU (gF L) 0 n) (n : Int)) (topU (gF L) 0 (2 ^ r)) := by
  intro d
  have h4096 := pow12 hr
  induction d with
  | zero =>
    intro n hd
    have hn : n = 2 ^ r := by omega
    have h2 := lik_l1 x0 r hr hx L hL (topU (gF L) 0 (2 ^ r)) (2 ^ r) 0 (Nat.zero_add _)
    refine ⟨Ev.step (fun k => ?_) h2, Ev.step (f := fun _ => some (topU (gF L) 0 (2 ^ r))) (fun k => ?_) (Ev.now _)⟩
    · simp only [spec_LikeliestAfter.l0]
      rw [hn, if_neg (Int.lt_irrefl _), hL]
      rfl
    · simp only [impl_LikeliestAfter.l0]
      rw [hn, hL, if_neg (Int.lt_irrefl _)]
  | succ d ih =>
    intro n hd
    have hlt : n < 2 ^ r := by omega
    have hlt' : (n : Int) < ((2 ^ r : Nat) : Int) := Int.ofNat_lt.2 hlt
    have hltL : (n : Int) < (L.length : Int) := by rw [hL]; exact hlt'
    have hs1 : wrap64 ((n : Int) + 1) = ((n + 1 : Nat) : Int) := succ64 (by omega)
    obtain ⟨e1, e2⟩ := ih (n + 1) (by omega)
    refine ⟨Ev.step (fun k => ?_) e1, Ev.step (fun k => ?_) e2⟩
    · simp only [spec_LikeliestAfter.l0]
      rw [if_pos hlt', if_pos (Int.natCast_nonneg _), if_pos hltL, most_eq, obind, hs1]
      rfl
    · simp only [impl_LikeliestAfter.l0]
      rw [if_pos hltL, if_pos (Int.natCast_nonneg _), hs1]
      rfl
theorem lik_spec (a0 : ByteArray) (a1 : Int) : ∃ v : List ByteArray × Bool, v.1.length ≤ 4096 ∧ Ev (fun k => spec_LikeliestAfter.f k a0 a1) v ∧ Ev (fun k => impl_LikeliestAfter.f k a0 a1) v := by
  have hw := waSmall a0 a0 a1
  have hsm : small a0 a0 a1 = ((isSt a0.data.toList && decide (a0.data.toList.length ≤ 12)) && decide (0 ≤ a1 ∧ a1 ≤ 40)) := by
    unfold small two
    simp
  rw [hsm] at hw
  cases h : (isSt a0.data.toList && decide (a0.data.toList.length ≤ 12)) with
  | false =>
    rw [h] at hw
    refine ⟨([], false), by simp, ?_, ?_⟩
    · unfold spec_LikeliestAfter.f
      exact Ev.bind hw (Ev.congr (fun k => if_neg (by simp)) (Ev.now _))
    · unfold impl_LikeliestAfter.f
      rw [isWalk, h]
      exact Ev.congr (fun k => by rw [obind, if_neg (by simp)]) (Ev.now _)
  | true =>
    rw [h] at hw
    cases h1 : decide ((0 : Int) ≤ a1 ∧ a1 ≤ 40) with
    | false =>
      rw [h1] at hw
      refine ⟨([], false), by simp, ?_, ?_⟩
      · unfold spec_LikeliestAfter.f
        exact Ev.bind hw (Ev.congr (fun k => if_neg (by simp)) (Ev.now _))
      · unfold impl_LikeliestAfter.f
        rw [isWalk, h, in_eq, h1]
        exact Ev.congr (fun k => by rw [obind, if_pos rfl, obind, if_neg (by simp)]) (Ev.now _)
    | true =>
      rw [h1] at hw
      rw [Bool.and_eq_true, decide_eq_true_eq] at h
      obtain ⟨hst, h12⟩ := h
      rw [decide_eq_true_eq] at h1
      obtain ⟨M, rfl⟩ : ∃ M : Nat, a1 = (M : Int) := ⟨a1.toNat, by omega⟩
      obtain ⟨r, hr⟩ : ∃ r, a0.data.toList.length = r := ⟨_, rfl⟩
      have hlen := isSt_len hst
      have hp : 0 < 2 ^ r := Nat.two_pow_pos r
      have htop : topN a0.data.toList + 1 = 2 ^ r := by unfold topN; rw [hr]; omega
      have hsp := spread a0 hst M (by omega) 2
      obtain ⟨g1, g2⟩ := topN_le hlen.2.1
      have hch := waChances (num a0.data.toList) (topN a0.data.toList) M (topN_pos hlen.1) g1 g2 (by omega)
      have hlast := last_eq a0 hlen.2.1
      rw [topN_eq] at hlast
      have hLl : (walksL (topN a0.data.toList) 2 M (startL (topN a0.data.toList) (num a0.data.toList))).length = 2 ^ r := by rw [walksL_length _ _ _ _ (startL_length _ _), htop]
      obtain ⟨L, hL⟩ : ∃ L, L = walksL (topN a0.data.toList) 2 M (startL (topN a0.data.toList) (num a0.data.toList)) := ⟨_, rfl⟩
      rw [← hL] at hsp hch hLl
      have h4096 := pow12 (r := r) (by omega)
      obtain ⟨e1, e2⟩ := lik_l0 a0 r (by omega) hr L hLl (2 ^ r) 0 (Nat.zero_add _)
      have hin : decide ((0 : Int) ≤ (M : Int) ∧ (M : Int) ≤ 40) = true := decide_eq_true h1
      refine ⟨(pickT r (isTop L (topU (gF L) 0 (2 ^ r))) (2 ^ r), true), Nat.le_trans (pickT_len r _ (2 ^ r)) h4096, ?_, ?_⟩
      · unfold spec_LikeliestAfter.f
        refine Ev.bind hw (Ev.congr (fun k => if_pos rfl) (Ev.bind (riNumber a0 hlen.2.1) ?_))
        rw [hlast]
        refine Ev.bind hch ?_
        rw [hLl]
        exact e1
      · unfold impl_LikeliestAfter.f
        rw [isWalk, hst, decide_eq_true h12, in_eq, hin]
        refine Ev.congr (fun k => by rw [Bool.and_self, obind, if_pos rfl, obind, if_pos rfl]) (Ev.bind hsp (Ev.bind e2 ?_))
        rw [size_eq, hr]
        refine Ev.bind (withNums (impl_LikeliestAfter.take L (topU (gF L) 0 (2 ^ r))) (isTop L (topU (gF L) 0 (2 ^ r))) r (by omega) (fun n hn => ?_)) (Ev.now _)
        refine Ev.congr (fun k => ?_) (Ev.now _)
        unfold impl_LikeliestAfter.take
        rw [if_pos (Int.natCast_nonneg _), hLl, if_pos (Int.ofNat_lt.2 hn)]
        rfl
theorem FnExactLikeliestAfter : laws_FnExactLikeliestAfter.Pure := by
  intro a0 a1 _ _
  obtain ⟨v, hl, h1, h2⟩ := lik_spec a0 a1
  obtain ⟨m, hm1, hm2⟩ := marks v.1 (by omega)
  have he := eqSS v.1 (by omega)
  refine Ev.rounds ?_
  unfold laws_FnExactLikeliestAfter.f
  by_cases c1 : (a0.size : Int) > 1048576
  · exact Ev.congr (fun k => if_pos c1) (Ev.now _)
  · refine Ev.congr (fun k => if_neg c1) (Ev.bind h1 (Ev.bind h2 (Ev.bind he ?_)))
    refine Ev.congr (fun k => if_pos rfl) ?_
    have hne : (v.2 != v.2) = false := by simp
    rw [hne]
    refine Ev.step (fun k => by simp only [laws_FnExactLikeliestAfter.j0]; rw [if_neg (by simp)]) (Ev.bind hm1 (Ev.bind hm2 ?_))
    refine Ev.congr (fun k => by rw [if_neg (by omega), if_pos rfl]) (Ev.bind h2 (Ev.bind he ?_))
    refine Ev.congr (fun k => if_pos rfl) ?_
    simp only [hne]
    refine Ev.step (fun k => by simp only [laws_FnExactLikeliestAfter.j1]; rw [if_neg (by simp)]) (Ev.bind hm2 ?_)
    exact Ev.congr (fun k => by rw [if_neg (by omega), if_pos rfl]) (Ev.now _)
end Go.Proofs.YtkdngoffpoikpaaDoor.Pure
