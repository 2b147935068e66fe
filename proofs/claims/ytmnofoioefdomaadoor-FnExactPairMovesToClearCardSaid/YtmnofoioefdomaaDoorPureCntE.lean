/-
  The pure statements of the laws on FewestPairMoves, SavedByPairs, CountByPairs, MostSaved, PairMovesToClear.
-/
import Derived.Test.YtmnofoioefdomaaDoorLemSymEE
import Derived.Test.YtmnofoioefdomaaDoorLemStateE
import Derived.Test.YtmnofoioefdomaaDoorPEx7
namespace Go.Proofs.YtmnofoioefdomaaDoor.Lem
open Go.RowKit Go.Proofs.YtmnofoioefdomaaDoor.PE Go.Proofs.YtmnofoioefdomaaDoorW.PrintWords Go.Proofs.YtmnofoioefdomaaDoorW.PrintLast Go.Proofs.YtmnofoioefdomaaDoorW.PrintMore Go.Proofs.YtmnofoioefdomaaDoor.Ring Go.Proofs.YtmnofoioefdomaaDoor.Bfs
set_option linter.unusedVariables false
set_option linter.unusedSimpArgs false

theorem tx_append (a b : List UInt8) : tx a ++ tx b = tx (a ++ b) := by
  apply ba_ext
  rw [ByteArray.data_append, Array.toList_append, tx_data, tx_data, tx_data]
theorem riAll_l0 (c : UInt8) : ∀ (n j k : Nat), n < k → n + j ≤ 1000000 → spec_riAll.l0 k (n : Int) (tx [c]) (tx (List.replicate j c)) = some (tx (List.replicate (j + n) c)) := by
  intro n
  induction n with
  | zero =>
    intro j k hk hj
    obtain ⟨k, rfl⟩ : ∃ m, k = m + 1 := ⟨k - 1, by omega⟩
    simp only [spec_riAll.l0]
    rw [if_neg (by omega)]
    rfl
  | succ n ih =>
    intro j k hk hj
    obtain ⟨k, rfl⟩ : ∃ m, k = m + 1 := ⟨k - 1, by omega⟩
    have h1 := ih (j + 1) k (by omega) (by omega)
    simp only [spec_riAll.l0]
    rw [if_pos (by omega), if_pos (by rw [tx_size, tx_size, List.length_replicate]; simp; omega), tx_append, show List.replicate j c ++ [c] = List.replicate (j + 1) c from by rw [List.replicate_succ'], show wrap64 (((n + 1 : Nat) : Int) - 1) = (n : Int) from by rw [w64 (by omega) (by omega)]; omega, h1]
    rw [show j + 1 + n = j + (n + 1) from by omega]
theorem riAll (c : UInt8) (r : Nat) (hr : r ≤ 1000) : Ev (fun k => spec_riAll.f k (r : Int) (⟨#[c]⟩ : ByteArray)) (tx (List.replicate r c)) := by
  refine Ev.of (k := r + 1) (fun k => spec_riAll.mono _ _ k) ?_
  have := riAll_l0 c r 0 (r + 1) (by omega) (by omega)
  rw [Nat.zero_add] at this
  exact this
theorem sign_zero (k : Nat) : sign 0 k = 48 := by simp [sign]
theorem stOf_zero (r : Nat) : stOf r 0 = List.replicate r 48 := by
  apply List.ext_getElem
  · simp [stOf_length]
  · intro i h1 h2
    simp [stOf, sign_zero]
theorem rep_ok (r : Nat) (c : UInt8) (h : okc c = true) : (List.replicate r c).all okc = true := by
  rw [List.all_eq_true]
  intro x hx
  rw [List.mem_replicate] at hx
  rw [hx.2]
  exact h
theorem twRings (a : Int) : spec_twRings.f a = some (decide ((2 : Int) ≤ a ∧ a ≤ 12)) := by
  unfold spec_twRings.f
  rw [l1In_eq]
  rfl
/-- From the state with none on. -/
theorem zero_run (r : Nat) (h2 : 2 ≤ r) (hr : r ≤ 12) : ∃ st' : St Nat, Ev (fun k => spec_twFar.f k (tx (List.replicate r 48))) (farL (2 ^ r) st', wayL (2 ^ r) st') ∧ Ev (fun k => impl_search.f k (tx (List.replicate r 48))) (farL (2 ^ r) st', wayL (2 ^ r) st', qL r st') := by
  obtain ⟨s, _, _, e1, e2⟩ := far_run (List.replicate r 48) (by simpa using h2) (by simpa using hr) (rep_ok r 48 (by decide))
  rw [List.length_replicate] at e1 e2
  exact ⟨s, e1, e2⟩
theorem state0 (r : Nat) (hr : r ≤ 60) : Ev (fun k => impl_state.f k (r : Int) 0) (tx (List.replicate r 48)) := by
  have := state r 0 hr (by decide)
  rw [stOf_zero] at this
  exact this
theorem inL_nat {a : Int} (h : (decide ((2 : Int) ≤ a ∧ a ≤ 12)) = true) : ∃ r : Nat, a = (r : Int) ∧ 2 ≤ r ∧ r ≤ 12 := by
  rw [decide_eq_true_eq] at h
  exact ⟨a.toNat, by omega, by omega, by omega⟩
theorem count_l0 (l : List Int) (hl : l.length ≤ 4096) (x : Int) : ∀ (d i s : Nat), i + d = l.length → s ≤ i → ∃ v, Ev (fun k => spec_CountByPairs.l0 k x (s : Int) l (l.length : Int) (i : Int)) v ∧ Ev (fun k => impl_CountByPairs.l0 k x (s : Int) l (l.length : Int) (i : Int)) v := by
  intro d
  induction d with
  | zero =>
    intro i s hi hs
    have hn : ¬ (i : Int) < (l.length : Int) := by omega
    refine ⟨((s : Int), true), Ev.step (f := fun _ => some ((s : Int), true)) (fun k => ?_) (Ev.now _), Ev.step (f := fun _ => some ((s : Int), true)) (fun k => ?_) (Ev.now _)⟩
    · simp only [spec_CountByPairs.l0]; rw [if_neg hn]
    · simp only [impl_CountByPairs.l0]; rw [if_neg hn]
  | succ d ih =>
    intro i s hi hs
    have hlt : (i : Int) < (l.length : Int) := by omega
    have hi1 : wrap64 ((i : Int) + 1) = ((i + 1 : Nat) : Int) := succ64 (by omega)
    by_cases h : rd l (i : Int) = x
    · obtain ⟨v, h1, h2⟩ := ih (i + 1) (s + 1) (by omega) (by omega)
      have hs1 : wrap64 ((s : Int) + 1) = ((s + 1 : Nat) : Int) := succ64 (by omega)
      refine ⟨v, Ev.step (fun k => ?_) h1, Ev.step (fun k => ?_) h2⟩
      · simp only [spec_CountByPairs.l0]; rw [if_pos hlt, if_pos (by omega), if_pos hlt, if_pos h, hi1, hs1]
      · simp only [impl_CountByPairs.l0]; rw [if_pos hlt, if_pos (by omega), if_pos hlt, if_pos h, hi1, hs1]
    · obtain ⟨v, h1, h2⟩ := ih (i + 1) s (by omega) (by omega)
      refine ⟨v, Ev.step (fun k => ?_) h1, Ev.step (fun k => ?_) h2⟩
      · simp only [spec_CountByPairs.l0]; rw [if_pos hlt, if_pos (by omega), if_pos hlt, if_neg h, hi1]
      · simp only [impl_CountByPairs.l0]; rw [if_pos hlt, if_pos (by omega), if_pos hlt, if_neg h, hi1]
theorem count_spec (a0 a1 : Int) : ∃ v, Ev (fun k => spec_CountByPairs.f k a0 a1) v ∧ Ev (fun k => impl_CountByPairs.f k a0 a1) v := by
  have stop : ∀ x : Bool, x = true → Ev (fun k => spec_CountByPairs.j0 k a0 a1 x) ((0 : Int), false) ∧ Ev (fun k => impl_CountByPairs.j0 k a0 a1 x) ((0 : Int), false) := by
    intro x hx
    subst hx
    exact ⟨Ev.step (fun k => by simp only [spec_CountByPairs.j0]; rw [if_pos trivial]) (Ev.now _), Ev.step (fun k => by simp only [impl_CountByPairs.j0]; rw [if_pos trivial]) (Ev.now _)⟩
  cases h : decide ((2 : Int) ≤ a0 ∧ a0 ≤ 12) with
  | false =>
    refine ⟨((0 : Int), false), ?_, ?_⟩
    · unfold spec_CountByPairs.f
      rw [twRings, h]
      exact Ev.congr (fun k => by rw [obind, if_neg (by simp)]) (stop true rfl).1
    · unfold impl_CountByPairs.f
      rw [in_eq, h]
      exact Ev.congr (fun k => by rw [obind, if_neg (by simp)]) (stop true rfl).2
  | true =>
    cases h1 : decide ((0 : Int) ≤ a1 ∧ a1 ≤ 10000) with
    | false =>
      refine ⟨((0 : Int), false), ?_, ?_⟩
      · unfold spec_CountByPairs.f
        rw [twRings, h, l1In_eq, h1]
        exact Ev.congr (fun k => by rw [obind, if_pos rfl, obind]) (stop (!false) rfl).1
      · unfold impl_CountByPairs.f
        rw [in_eq, h, in_eq, h1]
        exact Ev.congr (fun k => by rw [obind, if_pos rfl, obind]) (stop (!false) rfl).2
    | true =>
      obtain ⟨r, rfl, h2, h12⟩ := inL_nat h
      obtain ⟨s, e1, e2⟩ := zero_run r h2 h12
      have h4096 := pow_le12 h12
      obtain ⟨v, c1, c2⟩ := count_l0 (farL (2 ^ r) s) (by rw [farL_length]; exact h4096) a1 (farL (2 ^ r) s).length 0 0 (Nat.zero_add _) (Nat.le_refl _)
      refine ⟨v, ?_, ?_⟩
      · unfold spec_CountByPairs.f
        rw [twRings, h, l1In_eq, h1]
        refine Ev.congr (fun k => by rw [obind, if_pos rfl, obind]) ?_
        refine Ev.step (fun k => by simp only [spec_CountByPairs.j0]; rw [if_neg (by simp)]) (Ev.bind (riAll 48 r (by omega)) (Ev.bind e1 c1))
      · unfold impl_CountByPairs.f
        rw [in_eq, h, in_eq, h1]
        refine Ev.congr (fun k => by rw [obind, if_pos rfl, obind]) ?_
        refine Ev.step (fun k => by simp only [impl_CountByPairs.j0]; rw [if_neg (by simp)]) (Ev.bind (state0 r (by omega)) (Ev.bind e2 c2))
theorem most_eq (a b : Int) : spec_l1Most.f a b = some (mx a b) := by
  unfold spec_l1Most.f mx
  by_cases h : a > b
  · rw [if_pos h]; congr 1; split <;> omega
  · rw [if_neg h]; congr 1; split <;> omega
theorem most_l0 (l : List Int) (hl : l.length ≤ 4096) : ∀ (d i : Nat) (s : Int), i + d = l.length → ∃ v, Ev (fun k => spec_MostSaved.l0 k s l (l.length : Int) (i : Int)) v ∧ Ev (fun k => impl_MostSaved.l0 k s l (l.length : Int) (i : Int)) v := by
  intro d
  induction d with
  | zero =>
    intro i s hi
    have hn : ¬ (i : Int) < (l.length : Int) := by omega
    refine ⟨(s, true), Ev.step (f := fun _ => some (s, true)) (fun k => ?_) (Ev.now _), Ev.step (f := fun _ => some (s, true)) (fun k => ?_) (Ev.now _)⟩
    · simp only [spec_MostSaved.l0]; rw [if_neg hn]
    · simp only [impl_MostSaved.l0]; rw [if_neg hn]
  | succ d ih =>
    intro i s hi
    have hlt : (i : Int) < (l.length : Int) := by omega
    have hi1 : wrap64 ((i : Int) + 1) = ((i + 1 : Nat) : Int) := succ64 (by omega)
    obtain ⟨v, h1, h2⟩ := ih (i + 1) (mx s (wrap64 ((i : Int) - rd l (i : Int)))) (by omega)
    refine ⟨v, Ev.step (fun k => ?_) h1, Ev.step (fun k => ?_) h2⟩
    · simp only [spec_MostSaved.l0]; rw [if_pos hlt, if_pos (by omega), if_pos hlt, most_eq, obind, hi1]
    · simp only [impl_MostSaved.l0]; rw [if_pos hlt, if_pos (by omega), if_pos hlt, hi1]
theorem most_spec (a0 : Int) : ∃ v, Ev (fun k => spec_MostSaved.f k a0) v ∧ Ev (fun k => impl_MostSaved.f k a0) v := by
  cases h : decide ((2 : Int) ≤ a0 ∧ a0 ≤ 12) with
  | false =>
    refine ⟨((0 : Int), false), ?_, ?_⟩
    · unfold spec_MostSaved.f
      rw [twRings, h]
      exact Ev.congr (fun k => by rw [obind, if_neg (by simp)]) (Ev.now _)
    · unfold impl_MostSaved.f
      rw [in_eq, h]
      exact Ev.congr (fun k => by rw [obind, if_neg (by simp)]) (Ev.now _)
  | true =>
    obtain ⟨r, rfl, h2, h12⟩ := inL_nat h
    obtain ⟨s, e1, e2⟩ := zero_run r h2 h12
    have h4096 := pow_le12 h12
    obtain ⟨v, c1, c2⟩ := most_l0 (farL (2 ^ r) s) (by rw [farL_length]; exact h4096) (farL (2 ^ r) s).length 0 0 (Nat.zero_add _)
    refine ⟨v, ?_, ?_⟩
    · unfold spec_MostSaved.f
      rw [twRings, h]
      exact Ev.congr (fun k => by rw [obind, if_pos rfl]) (Ev.bind (riAll 48 r (by omega)) (Ev.bind e1 c1))
    · unfold impl_MostSaved.f
      rw [in_eq, h]
      exact Ev.congr (fun k => by rw [obind, if_pos rfl]) (Ev.bind (state0 r (by omega)) (Ev.bind e2 c2))
theorem repeat_one (c : UInt8) : ∀ n, Lib.repeatL [c] n = List.replicate n c
  | 0 => rfl
  | n + 1 => by rw [Lib.repeatL, repeat_one c n]; rfl
theorem clear_spec (a0 : Int) : ∃ v, Ev (fun k => spec_PairMovesToClear.f k a0) v ∧ Ev (fun k => impl_PairMovesToClear.f k a0) v := by
  cases h : decide ((2 : Int) ≤ a0 ∧ a0 ≤ 12) with
  | false =>
    refine ⟨((0 : Int), false), ?_, ?_⟩
    · unfold spec_PairMovesToClear.f
      rw [twRings, h]
      exact Ev.congr (fun k => by rw [obind, if_neg (by simp)]) (Ev.now _)
    · unfold impl_PairMovesToClear.f
      rw [in_eq, h]
      exact Ev.congr (fun k => by rw [obind, if_neg (by simp)]) (Ev.now _)
  | true =>
    obtain ⟨r, rfl, h2, h12⟩ := inL_nat h
    obtain ⟨s, e1, e2⟩ := zero_run r h2 h12
    have h4096 := pow_le12 h12
    have hst : isSt (tx (List.replicate r 49)).data.toList = true := by
      rw [tx_data]
      have := rep_ok r 49 (by decide)
      unfold isSt
      rw [this, List.length_replicate, decide_eq_true (by omega : 1 ≤ r), decide_eq_true (by omega : r ≤ 20)]
      rfl
    obtain ⟨n, hn⟩ : ∃ n, n = num (List.replicate r (49 : UInt8)) := ⟨_, rfl⟩
    have hlt : n < 2 ^ r := by
      have := num_lt (List.replicate r (49 : UInt8))
      rw [List.length_replicate] at this
      omega
    have n1 := riNumber (tx (List.replicate r 49)) (by rw [tx_data, List.length_replicate]; omega)
    have n2 := number (tx (List.replicate r 49)) hst
    rw [tx_data, ← hn] at n1 n2
    have hall : impl_AllOn.f (r : Int) = some (tx (List.replicate r 49), true) := by
      unfold impl_AllOn.f strings_Repeat.f
      rw [in_eq, obind, if_pos (by simp; omega), if_pos ⟨by omega, by omega, by decide⟩, obind]
      have e : ((⟨#[49]⟩ : ByteArray)).data.toList = [49] := rfl
      rw [e, repeat_one]
      rfl
    refine ⟨(fz (s.far n), true), ?_, ?_⟩
    · unfold spec_PairMovesToClear.f
      rw [twRings, h]
      refine Ev.congr (fun k => by rw [obind, if_pos rfl]) (Ev.bind (riAll 48 r (by omega)) (Ev.bind e1 (Ev.bind (riAll 49 r (by omega)) (Ev.bind n1 ?_))))
      refine Ev.congr (fun k => by rw [if_pos (Int.natCast_nonneg _), farL_length, if_pos (Int.ofNat_lt.2 hlt), farL_rd s hlt]) (Ev.now _)
    · have hm : Ev (fun k => impl_MovesToClear.f k (r : Int)) ((n : Int), true) := by
        unfold impl_MovesToClear.f
        rw [hall]
        exact Ev.congr (fun k => by rw [obind, if_pos rfl]) (Ev.bind n2 (Ev.now _))
      unfold impl_PairMovesToClear.f
      rw [in_eq, h]
      refine Ev.congr (fun k => by rw [obind, if_pos rfl]) (Ev.bind (state0 r (by omega)) (Ev.bind e2 (Ev.bind hm ?_)))
      refine Ev.congr (fun k => by rw [if_pos (Int.natCast_nonneg _), farL_length, if_pos (Int.ofNat_lt.2 hlt), farL_rd s hlt]) (Ev.now _)
theorem same2 {a b : Int × Bool} (h : a = b) : (if a.1 = b.1 then (if (a.2 != b.2) = true then some false else some true) else some false) = some true := by
  subst h
  simp
end Go.Proofs.YtmnofoioefdomaaDoor.Lem
namespace Go.Proofs.YtmnofoioefdomaaDoor.Pure
open Go.RowKit Go.Proofs.YtmnofoioefdomaaDoor.PE Go.Proofs.YtmnofoioefdomaaDoorW.PrintWords Go.Proofs.YtmnofoioefdomaaDoorW.PrintLast Go.Proofs.YtmnofoioefdomaaDoorW.PrintMore Go.Proofs.YtmnofoioefdomaaDoor.Lem
theorem FnExactCountByPairs : laws_FnExactCountByPairs.Pure := by
  intro a0 a1 _ _
  obtain ⟨v, h1, h2⟩ := count_spec a0 a1
  refine Ev.rounds ?_
  unfold laws_FnExactCountByPairs.f
  refine Ev.bind h1 (Ev.bind h2 ?_)
  rw [same2 rfl]
  exact Ev.now _
theorem FnExactMostSaved : laws_FnExactMostSaved.Pure := by
  intro a0 _
  obtain ⟨v, h1, h2⟩ := most_spec a0
  refine Ev.rounds ?_
  unfold laws_FnExactMostSaved.f
  refine Ev.bind h1 (Ev.bind h2 ?_)
  rw [same2 rfl]
  exact Ev.now _
theorem FnExactPairMovesToClear : laws_FnExactPairMovesToClear.Pure := by
  intro a0 _
  obtain ⟨v, h1, h2⟩ := clear_spec a0
  refine Ev.rounds ?_
  unfold laws_FnExactPairMovesToClear.f
  refine Ev.bind h1 (Ev.bind h2 ?_)
  rw [same2 rfl]
  exact Ev.now _
end Go.Proofs.YtmnofoioefdomaaDoor.Pure
