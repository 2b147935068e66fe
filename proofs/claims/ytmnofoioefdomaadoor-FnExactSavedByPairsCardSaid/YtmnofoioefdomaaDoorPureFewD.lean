/-
  The pure statements of the laws on FewestPairMoves, SavedByPairs, CountByPairs, MostSaved, PairMovesToClear.
-/
import Derived.Test.YtmnofoioefdomaaDoorLemSymD
import Derived.Test.YtmnofoioefdomaaDoorPDx7
namespace Go.Proofs.YtmnofoioefdomaaDoor.Lem
open Go.RowKit Go.Proofs.YtmnofoioefdomaaDoor.PD Go.Proofs.YtmnofoioefdomaaDoorW.PrintWords Go.Proofs.YtmnofoioefdomaaDoorW.PrintLast Go.Proofs.YtmnofoioefdomaaDoorW.PrintMore Go.Proofs.YtmnofoioefdomaaDoor.Ring Go.Proofs.YtmnofoioefdomaaDoor.Bfs
set_option linter.unusedVariables false
set_option linter.unusedSimpArgs false

theorem tx_append (a b : List UInt8) : tx a ++ tx b = tx (a ++ b) := by
  apply ba_ext
  rw [ByteArray.data_append, Array.toList_append, tx_data, tx_data, tx_data]
theorem sign_zero (k : Nat) : sign 0 k = 48 := by simp [sign]
theorem stOf_zero (r : Nat) : stOf r 0 = List.replicate r 48 := by
  apply List.ext_getElem
  · simp [stOf_length]
  · intro i h1 h2
    simp [stOf, sign_zero]
theorem rep_ok (r : Nat) (c : UInt8) (h : okc c = true) : (List.replicate r c).all okc = true := by
  rw [List.all_eq_true]
  intro x hx
  rw [List.mem_replicate] at hx
  rw [hx.2]
  exact h
theorem apart {a b : Nat} (ha : a < 1048576) (hb : b < 1048576) : impl_apart.f (a : Int) (b : Int) = some (((a - b) + (b - a) : Nat) : Int) := by
  unfold impl_apart.f mx
  rw [w64 (by omega) (by omega), w64 (by omega) (by omega)]
  congr 1
  split <;> omega
theorem l1Abs {a b : Nat} (ha : a < 1048576) (hb : b < 1048576) : spec_l1Abs.f (wrap64 ((a : Int) - (b : Int))) = some (((a - b) + (b - a) : Nat) : Int) := by
  unfold spec_l1Abs.f spec_l1Most.f
  rw [w64 (n := (a : Int) - b) (by omega) (by omega), w64 (by omega) (by omega)]
  split <;> (simp only [obind]; congr 1; omega)
/-- The searches at two states of as many rings, as texts. -/
theorem two_runs {a b : ByteArray} (h : twoP a b = true) : ∃ (r na nb : Nat) (sa sb : St Nat), 2 ≤ r ∧ r ≤ 12 ∧ a.data.toList.length = r ∧ b.data.toList.length = r ∧ num a.data.toList = na ∧ num b.data.toList = nb ∧ na < 2 ^ r ∧ nb < 2 ^ r ∧
    Final (nbr r) na sa ∧ Final (nbr r) nb sb ∧ isSt a.data.toList = true ∧ isSt b.data.toList = true ∧
    Ev (fun k => spec_twFar.f k b) (farL (2 ^ r) sb, wayL (2 ^ r) sb) ∧ Ev (fun k => impl_search.f k a) (farL (2 ^ r) sa, wayL (2 ^ r) sa, qL r sa) := by
  unfold twoP at h
  simp only [Bool.and_eq_true, decide_eq_true_eq] at h
  obtain ⟨ha, hb, hl⟩ := h
  obtain ⟨a1, a2, a3, a4⟩ := goodP_len ha
  obtain ⟨b1, b2, b3, b4⟩ := goodP_len hb
  obtain ⟨sa, fa, _, _, ea⟩ := far_run a.data.toList a1 a2 a3
  obtain ⟨sb, fb, _, eb, _⟩ := far_run b.data.toList b1 b2 b3
  rw [tx_self] at ea eb
  have na := num_lt a.data.toList
  have nb := num_lt b.data.toList
  rw [hl] at fa ea na a1 a2
  exact ⟨b.data.toList.length, _, _, sa, sb, a1, a2, hl, rfl, rfl, rfl, na, nb, fa, fb, a4, b4, eb, ea⟩
theorem fewest_spec (a b : ByteArray) : ∃ v, Ev (fun k => spec_FewestPairMoves.f k a b) v ∧ Ev (fun k => impl_FewestPairMoves.f k a b) v := by
  cases h : twoP a b with
  | false =>
    have ht := twTwo a b
    rw [h] at ht
    refine ⟨(0, false), ?_, ?_⟩
    · unfold spec_FewestPairMoves.f
      exact Ev.bind ht (Ev.congr (fun k => if_neg (by simp)) (Ev.now _))
    · unfold impl_FewestPairMoves.f
      rw [arePaired, h]
      exact Ev.congr (fun k => by rw [obind, if_neg (by simp)]) (Ev.now _)
  | true =>
    have ht := twTwo a b
    rw [h] at ht
    obtain ⟨r, na, nb, sa, sb, h2, h12, la, lb, ena, enb, hna, hnb, fa, fb, sta, stb, es, ei⟩ := two_runs h
    have hsym := far_sym hna hnb fa fb
    have n1 := riNumber a (by omega)
    have n2 := number b stb
    rw [ena] at n1
    rw [enb] at n2
    refine ⟨(fz (sb.far na), true), ?_, ?_⟩
    · unfold spec_FewestPairMoves.f
      refine Ev.bind ht (Ev.congr (fun k => if_pos rfl) (Ev.bind es (Ev.bind n1 ?_)))
      refine Ev.congr (fun k => by rw [if_pos (Int.natCast_nonneg _), farL_length, if_pos (Int.ofNat_lt.2 hna), farL_rd sb hna]) (Ev.now _)
    · unfold impl_FewestPairMoves.f
      rw [arePaired, h]
      refine Ev.congr (fun k => by rw [obind, if_pos rfl]) (Ev.bind ei (Ev.bind n2 ?_))
      refine Ev.congr (fun k => by rw [if_pos (Int.natCast_nonneg _), farL_length, if_pos (Int.ofNat_lt.2 hnb), farL_rd sa hnb, hsym]) (Ev.now _)
theorem saved_spec (a b : ByteArray) : ∃ v, Ev (fun k => spec_SavedByPairs.f k a b) v ∧ Ev (fun k => impl_SavedByPairs.f k a b) v := by
  cases h : twoP a b with
  | false =>
    have ht := twTwo a b
    rw [h] at ht
    refine ⟨(0, false), ?_, ?_⟩
    · unfold spec_SavedByPairs.f
      exact Ev.bind ht (Ev.congr (fun k => if_neg (by simp)) (Ev.now _))
    · unfold impl_SavedByPairs.f impl_FewestPairMoves.f
      rw [arePaired, h]
      exact Ev.congr (fun k => by rw [obind, if_neg (by simp), obind, if_neg (by simp)]) (Ev.now _)
  | true =>
    have ht := twTwo a b
    rw [h] at ht
    obtain ⟨r, na, nb, sa, sb, h2, h12, la, lb, ena, enb, hna, hnb, fa, fb, sta, stb, es, ei⟩ := two_runs h
    have hsym := far_sym hna hnb fa fb
    have h4096 := pow_le12 h12
    have n1 := riNumber a (by omega)
    have n1b := riNumber b (by omega)
    have n2 := number b stb
    have n2a := number a sta
    rw [ena] at n1 n2a
    rw [enb] at n2 n1b
    have h1 := l1Abs (a := na) (b := nb) (by omega) (by omega)
    have h1b := apart (a := na) (b := nb) (by omega) (by omega)
    refine ⟨(wrap64 ((((na - nb) + (nb - na) : Nat) : Int) - fz (sb.far na)), true), ?_, ?_⟩
    · unfold spec_SavedByPairs.f
      refine Ev.bind ht (Ev.congr (fun k => if_pos rfl) (Ev.bind es (Ev.bind n1 (Ev.bind n1b ?_))))
      refine Ev.congr (fun k => by rw [h1, obind]) (Ev.bind n1 ?_)
      refine Ev.congr (fun k => by rw [if_pos (Int.natCast_nonneg _), farL_length, if_pos (Int.ofNat_lt.2 hna), farL_rd sb hna]) (Ev.now _)
    · have hf : Ev (fun k => impl_FewestPairMoves.f k a b) (fz (sb.far na), true) := by
        unfold impl_FewestPairMoves.f
        rw [arePaired, h]
        refine Ev.congr (fun k => by rw [obind, if_pos rfl]) (Ev.bind ei (Ev.bind n2 ?_))
        refine Ev.congr (fun k => by rw [if_pos (Int.natCast_nonneg _), farL_length, if_pos (Int.ofNat_lt.2 hnb), farL_rd sa hnb, hsym]) (Ev.now _)
      unfold impl_SavedByPairs.f
      refine Ev.bind hf (Ev.congr (fun k => if_pos rfl) (Ev.bind n2a (Ev.bind n2 ?_)))
      refine Ev.congr (fun k => by rw [h1b, obind]) (Ev.now _)
theorem same2 {a b : Int × Bool} (h : a = b) : (if a.1 = b.1 then (if (a.2 != b.2) = true then some false else some true) else some false) = some true := by
  subst h
  simp
end Go.Proofs.YtmnofoioefdomaaDoor.Lem
namespace Go.Proofs.YtmnofoioefdomaaDoor.Pure
open Go.RowKit Go.Proofs.YtmnofoioefdomaaDoor.PD Go.Proofs.YtmnofoioefdomaaDoorW.PrintWords Go.Proofs.YtmnofoioefdomaaDoorW.PrintLast Go.Proofs.YtmnofoioefdomaaDoorW.PrintMore Go.Proofs.YtmnofoioefdomaaDoor.Lem
theorem FnExactFewestPairMoves : laws_FnExactFewestPairMoves.Pure := by
  intro a0 a1 _ _
  obtain ⟨v, h1, h2⟩ := fewest_spec a0 a1
  refine Ev.rounds ?_
  unfold laws_FnExactFewestPairMoves.f
  by_cases c1 : (a0.size : Int) > 1048576
  · exact Ev.congr (fun k => if_pos c1) (Ev.now _)
  · refine Ev.congr (fun k => if_neg c1) ?_
    by_cases c2 : (a1.size : Int) > 1048576
    · exact Ev.congr (fun k => if_pos c2) (Ev.now _)
    · refine Ev.congr (fun k => if_neg c2) (Ev.bind h1 (Ev.bind h2 ?_))
      rw [same2 rfl]
      exact Ev.now _
theorem FnExactSavedByPairs : laws_FnExactSavedByPairs.Pure := by
  intro a0 a1 _ _
  obtain ⟨v, h1, h2⟩ := saved_spec a0 a1
  refine Ev.rounds ?_
  unfold laws_FnExactSavedByPairs.f
  by_cases c1 : (a0.size : Int) > 1048576
  · exact Ev.congr (fun k => if_pos c1) (Ev.now _)
  · refine Ev.congr (fun k => if_neg c1) ?_
    by_cases c2 : (a1.size : Int) > 1048576
    · exact Ev.congr (fun k => if_pos c2) (Ev.now _)
    · refine Ev.congr (fun k => if_neg c2) (Ev.bind h1 (Ev.bind h2 ?_))
      rw [same2 rfl]
      exact Ev.now _
end Go.Proofs.YtmnofoioefdomaaDoor.Pure
