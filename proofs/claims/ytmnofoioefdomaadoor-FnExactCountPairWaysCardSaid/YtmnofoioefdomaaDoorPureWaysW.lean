/-
  The pure statement of the law on CountPairWays.
-/
import Derived.Test.YtmnofoioefdomaaDoorLemWaysW
import Derived.Test.YtmnofoioefdomaaDoorPWx7
namespace Go.Proofs.YtmnofoioefdomaaDoor.Lem
open Go.RowKit Go.Proofs.YtmnofoioefdomaaDoor.PW Go.Proofs.YtmnofoioefdomaaDoorW.PrintWords Go.Proofs.YtmnofoioefdomaaDoorW.PrintLast Go.Proofs.YtmnofoioefdomaaDoorW.PrintMore Go.Proofs.YtmnofoioefdomaaDoor.Ring Go.Proofs.YtmnofoioefdomaaDoor.Bfs
set_option linter.unusedVariables false
set_option linter.unusedSimpArgs false

theorem wayL_rd {N t : Nat} (st : St Nat) (h : t < N) : rd (wayL N st) (t : Int) = st.ways t := rowF_rd N _ t h
theorem wayL_length (N : Nat) (st : St Nat) : (wayL N st).length = N := rowF_length _ _
theorem ways_sym {r a b : Nat} (h2 : 2 ≤ r) (ha : a < 2 ^ r) (hb : b < 2 ^ r) {sa sb : St Nat} (fa : Final (nbr r) a sa) (fb : Final (nbr r) b sb) (wa : Told r a sa) (wb : Told r b sb)
    : sa.ways b = sb.ways a := by
  have hs := far_sym ha hb fa fb
  cases hn : sa.far b with
  | none => rw [wa.2 b hn, wb.2 a (by rw [← hs]; exact hn)]
  | some n =>
  rw [wa.1 n b hn, wb.1 n a (by rw [← hs]; exact hn), walks_sym (P := fun n => n < 2 ^ r) (fun _ _ _ h => nbr_lt h) (fun _ _ h1 h2' => nbr_count h2 h1 h2') n a b ha hb]
theorem ways_spec (a b : ByteArray) : ∃ v, Ev (fun k => spec_CountPairWays.f k a b) v ∧ Ev (fun k => impl_CountPairWays.f k a b) v := by
  cases h : twoP a b with
  | false =>
    have ht := twTwo a b
    rw [h] at ht
    refine ⟨(0, false), ?_, ?_⟩
    · unfold spec_CountPairWays.f
      exact Ev.bind ht (Ev.congr (fun k => if_neg (by simp)) (Ev.now _))
    · unfold impl_CountPairWays.f
      rw [arePaired, h]
      exact Ev.congr (fun k => by rw [obind, if_neg (by simp)]) (Ev.now _)
  | true =>
    have ht := twTwo a b
    have ht' := arePaired a b
    rw [h] at ht ht'
    unfold twoP at h
    simp only [Bool.and_eq_true, decide_eq_true_eq] at h
    obtain ⟨ha, hb, hl⟩ := h
    obtain ⟨a1, a2, a3, a4⟩ := goodP_len ha
    obtain ⟨b1, b2, b3, b4⟩ := goodP_len hb
    obtain ⟨sa, fa, wa, _, ei⟩ := far_run_w a.data.toList a1 a2 a3
    obtain ⟨sb, fb, wb, es, _⟩ := far_run_w b.data.toList b1 b2 b3
    rw [tx_self] at ei es
    have na := num_lt a.data.toList
    have nb := num_lt b.data.toList
    have n1 := riNumber a (by omega)
    have n2 := number b b4
    rw [hl] at fa wa ei na a1 a2
    generalize num a.data.toList = ia at *
    generalize num b.data.toList = ib at *
    generalize b.data.toList.length = r at *
    have hw : sb.ways ia = sa.ways ib := (ways_sym b1 na nb fa fb wa wb).symm
    refine ⟨(sb.ways ia, true), ?_, ?_⟩
    · unfold spec_CountPairWays.f
      refine Ev.bind ht (Ev.congr (fun k => if_pos rfl) (Ev.bind es (Ev.bind n1 ?_)))
      refine Ev.congr (fun k => by rw [if_pos (Int.natCast_nonneg _), wayL_length, if_pos (Int.ofNat_lt.2 na), wayL_rd sb na]) (Ev.now _)
    · unfold impl_CountPairWays.f
      rw [ht']
      refine Ev.congr (fun k => by rw [obind, if_pos rfl]) (Ev.bind ei (Ev.bind n2 ?_))
      refine Ev.congr (fun k => by rw [if_pos (Int.natCast_nonneg _), wayL_length, if_pos (Int.ofNat_lt.2 nb), wayL_rd sa nb, hw]) (Ev.now _)
end Go.Proofs.YtmnofoioefdomaaDoor.Lem
namespace Go.Proofs.YtmnofoioefdomaaDoor.Pure
open Go.RowKit Go.Proofs.YtmnofoioefdomaaDoor.PW Go.Proofs.YtmnofoioefdomaaDoorW.PrintWords Go.Proofs.YtmnofoioefdomaaDoorW.PrintLast Go.Proofs.YtmnofoioefdomaaDoorW.PrintMore Go.Proofs.YtmnofoioefdomaaDoor.Lem
theorem same2 {a b : Int × Bool} (h : a = b) : (if a.1 = b.1 then (if (a.2 != b.2) = true then some false else some true) else some false) = some true := by
  subst h
  simp
theorem FnExactCountPairWays : laws_FnExactCountPairWays.Pure := by
  intro a0 a1 _ _
  obtain ⟨v, h1, h2⟩ := ways_spec a0 a1
  refine Ev.rounds ?_
  unfold laws_FnExactCountPairWays.f
  by_cases c1 : (a0.size : Int) > 1048576
  · exact Ev.congr (fun k => if_pos c1) (Ev.now _)
  · refine Ev.congr (fun k => if_neg c1) ?_
    by_cases c2 : (a1.size : Int) > 1048576
    · exact Ev.congr (fun k => if_pos c2) (Ev.now _)
    · refine Ev.congr (fun k => if_neg c2) (Ev.bind h1 (Ev.bind h2 ?_))
      rw [same2 rfl]
      exact Ev.now _
end Go.Proofs.YtmnofoioefdomaaDoor.Pure
