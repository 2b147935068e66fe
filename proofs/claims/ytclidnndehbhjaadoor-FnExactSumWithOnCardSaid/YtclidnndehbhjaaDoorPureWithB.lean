/-
  The pure statements of the laws on LeastWithOn, GreatestWithOn, SumWithOn.
-/
import Derived.Test.YtclidnndehbhjaaDoorLemWithB
namespace Go.Proofs.YtclidnndehbhjaaDoor.Pure
open Go.RowKit Go.Proofs.YtclidnndehbhjaaDoor.PB Go.Proofs.YtclidnndehbhjaaDoorW.PrintWords Go.Proofs.YtclidnndehbhjaaDoorW.PrintLast Go.Proofs.YtclidnndehbhjaaDoorW.PrintMore Go.Proofs.YtclidnndehbhjaaDoor.Ring Go.Proofs.YtclidnndehbhjaaDoor.Lem
set_option linter.unusedVariables false

theorem same2b {a b : ByteArray × Bool} (h : a = b) : (if a.1.toList = b.1.toList then (if (a.2 != b.2) = true then some false else some true) else some false) = some true := by
  subst h
  simp
theorem least_spec (a0 a1 : Int) : ∃ v, Ev (fun k => spec_LeastWithOn.f k a0 a1) v ∧ Ev (fun k => impl_LeastWithOn.f k a0 a1) v := by
  cases h : onB a0 a1 with
  | false =>
    refine ⟨((⟨#[]⟩ : ByteArray), false), ?_, ?_⟩
    · unfold spec_LeastWithOn.f
      rw [waOn, h]
      exact Ev.congr (fun k => by rw [obind, if_neg (by simp)]) (Ev.now _)
    · unfold impl_LeastWithOn.f
      rw [isOn, h]
      exact Ev.congr (fun k => by rw [obind, if_neg (by simp)]) (Ev.now _)
  | true =>
    obtain ⟨r, on, rfl, rfl, h1, h2, h3⟩ := onB_nat h
    have hp := withL_pos h3
    refine ⟨(stB r (withL r on)[0], true), ?_, ?_⟩
    · unfold spec_LeastWithOn.f
      rw [waOn, h]
      refine Ev.congr (fun k => by rw [obind, if_pos rfl]) (Ev.bind (waWith r on h2) ?_)
      refine Ev.congr (fun k => if_pos (by rw [List.length_map]; omega)) ?_
      have e := rd_map (withL r on) 0 hp
      rw [show ((0 : Nat) : Int) = 0 from rfl] at e
      rw [e]
      have hlt : (withL r on)[0] < 2 ^ r := withU_lt (List.getElem_mem hp)
      have := pow12 h2
      exact Ev.bind (riState r _ (by omega) (by omega)) (Ev.now _)
    · unfold impl_LeastWithOn.f
      rw [isOn, h]
      refine Ev.congr (fun k => by rw [obind, if_pos rfl]) (Ev.bind (withOn r on h1 h2) ?_)
      refine Ev.congr (fun k => if_pos (by rw [List.length_map]; omega)) ?_
      have e := rdOf_map (withL r on) (stB r) 0 hp
      rw [show ((0 : Nat) : Int) = 0 from rfl] at e
      rw [e]
      exact Ev.now _
theorem FnExactLeastWithOn : laws_FnExactLeastWithOn.Pure := by
  intro a0 a1 _ _
  obtain ⟨v, h1, h2⟩ := least_spec a0 a1
  refine Ev.rounds ?_
  unfold laws_FnExactLeastWithOn.f
  refine Ev.bind h1 (Ev.bind h2 ?_)
  rw [same2b rfl]
  exact Ev.now _
theorem greatest_spec (a0 a1 : Int) : ∃ v, Ev (fun k => spec_GreatestWithOn.f k a0 a1) v ∧ Ev (fun k => impl_GreatestWithOn.f k a0 a1) v := by
  cases h : onB a0 a1 with
  | false =>
    refine ⟨((⟨#[]⟩ : ByteArray), false), ?_, ?_⟩
    · unfold spec_GreatestWithOn.f
      rw [waOn, h]
      exact Ev.congr (fun k => by rw [obind, if_neg (by simp)]) (Ev.now _)
    · unfold impl_GreatestWithOn.f
      rw [isOn, h]
      exact Ev.congr (fun k => by rw [obind, if_neg (by simp)]) (Ev.now _)
  | true =>
    obtain ⟨r, on, rfl, rfl, h1, h2, h3⟩ := onB_nat h
    have hp := withL_pos h3
    have hl := withU_len r on (2 ^ r)
    have h4096 := pow12 h2
    have hlen : (withL r on).length - 1 < (withL r on).length := by omega
    have hll : (withL r on).length ≤ 2 ^ r := hl
    have ew : wrap64 (((withL r on).length : Int) - 1) = (((withL r on).length - 1 : Nat) : Int) := by rw [w64 (by omega) (by omega)]; omega
    refine ⟨(stB r ((withL r on)[(withL r on).length - 1]'hlen), true), ?_, ?_⟩
    · unfold spec_GreatestWithOn.f
      rw [waOn, h]
      refine Ev.congr (fun k => by rw [obind, if_pos rfl]) (Ev.bind (waWith r on h2) ?_)
      rw [List.length_map, ew]
      refine Ev.congr (fun k => by rw [if_pos (by omega), if_pos (by omega)]) ?_
      rw [rd_map (withL r on) _ hlen]
      have hlt : (withL r on)[(withL r on).length - 1]'hlen < 2 ^ r := withU_lt (List.getElem_mem hlen)
      exact Ev.bind (riState r _ (by omega) (by omega)) (Ev.now _)
    · unfold impl_GreatestWithOn.f
      rw [isOn, h]
      refine Ev.congr (fun k => by rw [obind, if_pos rfl]) (Ev.bind (withOn r on h1 h2) ?_)
      rw [List.length_map, ew]
      refine Ev.congr (fun k => by rw [if_pos (by omega), if_pos (by omega)]) ?_
      rw [rdOf_map (withL r on) (stB r) _ hlen]
      exact Ev.now _
theorem FnExactGreatestWithOn : laws_FnExactGreatestWithOn.Pure := by
  intro a0 a1 _ _
  obtain ⟨v, h1, h2⟩ := greatest_spec a0 a1
  refine Ev.rounds ?_
  unfold laws_FnExactGreatestWithOn.f
  refine Ev.bind h1 (Ev.bind h2 ?_)
  rw [same2b rfl]
  exact Ev.now _

theorem sum_spec_l0 (r on : Nat) (hr : r ≤ 12) : ∀ (d i s : Nat), i + d = (withL r on).length → s + d * 4096 ≤ 1000000000 →
    Ev (fun k => spec_SumWithOn.l0 k (s : Int) ((withL r on).map zz) ((withL r on).length : Int) (i : Int)) (((s + ((withL r on).drop i).sum : Nat) : Int), true) := by
  intro d
  have h4096 := pow12 hr
  have hll : (withL r on).length ≤ 2 ^ r := withU_len r on (2 ^ r)
  induction d with
  | zero =>
    intro i s hi hs
    rw [List.drop_eq_nil_of_le (by omega)]
    refine Ev.step (f := fun _ => some ((s : Int), true)) (fun k => ?_) (Ev.now _)
    simp only [spec_SumWithOn.l0]
    rw [if_neg (by omega)]
  | succ d ih =>
    intro i s hi hs
    have hlt : i < (withL r on).length := by omega
    have hb : (withL r on)[i] < 2 ^ r := withU_lt (List.getElem_mem hlt)
    have h2 := ih (i + 1) (s + (withL r on)[i]) (by omega) (by omega)
    rw [List.drop_eq_getElem_cons hlt, List.sum_cons, ← Nat.add_assoc]
    refine Ev.step (fun k => ?_) h2
    simp only [spec_SumWithOn.l0]
    rw [if_pos (by omega), if_pos (by omega), if_pos (by rw [List.length_map]; omega), rd_map _ i hlt, succ64 (by omega)]
    congr 1
    rw [w64 (by omega) (by omega)]
    omega
theorem sum_impl_l0 (r on : Nat) (h1 : 1 ≤ r) (hr : r ≤ 12) : ∀ (d i s : Nat), i + d = (withL r on).length → s + d * 4096 ≤ 1000000000 →
    Ev (fun k => impl_SumWithOn.l0 k (s : Int) ((withL r on).map (stB r)) ((withL r on).length : Int) (i : Int)) (((s + ((withL r on).drop i).sum : Nat) : Int), true) := by
  intro d
  have h4096 := pow12 hr
  have hll : (withL r on).length ≤ 2 ^ r := withU_len r on (2 ^ r)
  induction d with
  | zero =>
    intro i s hi hs
    rw [List.drop_eq_nil_of_le (by omega)]
    refine Ev.step (f := fun _ => some ((s : Int), true)) (fun k => ?_) (Ev.now _)
    simp only [impl_SumWithOn.l0]
    rw [if_neg (by omega)]
  | succ d ih =>
    intro i s hi hs
    have hlt : i < (withL r on).length := by omega
    have hb : (withL r on)[i] < 2 ^ r := withU_lt (List.getElem_mem hlt)
    have h2 := ih (i + 1) (s + (withL r on)[i]) (by omega) (by omega)
    rw [List.drop_eq_getElem_cons hlt, List.sum_cons, ← Nat.add_assoc]
    refine Ev.step (f := fun k => (impl_number.f k (stB r (withL r on)[i])).bind fun t162 => (impl_SumWithOn.l0 k (wrap64 ((s : Int) + t162)) ((withL r on).map (stB r)) ((withL r on).length : Int) ((i + 1 : Nat) : Int))) (fun k => ?_) ?_
    · simp only [impl_SumWithOn.l0]
      rw [if_pos (by omega), if_pos (by omega), if_pos (by rw [List.length_map]; omega), rdOf_map _ _ i hlt, succ64 (by omega)]
    · refine Ev.bind (number _ (stB_isSt _ h1 (by omega))) ?_
      rw [stB_data, num_stOf _ _ hb]
      have e : wrap64 ((s : Int) + (((withL r on)[i] : Nat) : Int)) = ((s + (withL r on)[i] : Nat) : Int) := by rw [w64 (by omega) (by omega)]; omega
      rw [e]
      exact h2
theorem sum_spec (a0 a1 : Int) : ∃ v, Ev (fun k => spec_SumWithOn.f k a0 a1) v ∧ Ev (fun k => impl_SumWithOn.f k a0 a1) v := by
  cases h : onB a0 a1 with
  | false =>
    refine ⟨((0 : Int), false), ?_, ?_⟩
    · unfold spec_SumWithOn.f
      rw [waOn, h]
      exact Ev.congr (fun k => by rw [obind, if_neg (by simp)]) (Ev.now _)
    · unfold impl_SumWithOn.f
      rw [isOn, h]
      exact Ev.congr (fun k => by rw [obind, if_neg (by simp)]) (Ev.now _)
  | true =>
    obtain ⟨r, on, rfl, rfl, h1, h2, h3⟩ := onB_nat h
    have hll : (withL r on).length ≤ 2 ^ r := withU_len r on (2 ^ r)
    have h4096 := pow12 h2
    refine ⟨(((0 + ((withL r on).drop 0).sum : Nat) : Int), true), ?_, ?_⟩
    · unfold spec_SumWithOn.f
      rw [waOn, h]
      refine Ev.congr (fun k => by rw [obind, if_pos rfl]) (Ev.bind (waWith r on h2) ?_)
      rw [List.length_map]
      exact sum_spec_l0 r on h2 (withL r on).length 0 0 (by omega) (by omega)
    · unfold impl_SumWithOn.f
      rw [isOn, h]
      refine Ev.congr (fun k => by rw [obind, if_pos rfl]) (Ev.bind (withOn r on h1 h2) ?_)
      rw [List.length_map]
      exact sum_impl_l0 r on h1 h2 (withL r on).length 0 0 (by omega) (by omega)
theorem FnExactSumWithOn : laws_FnExactSumWithOn.Pure := by
  intro a0 a1 _ _
  obtain ⟨v, h1, h2⟩ := sum_spec a0 a1
  refine Ev.rounds ?_
  unfold laws_FnExactSumWithOn.f
  refine Ev.bind h1 (Ev.bind h2 ?_)
  simp only [if_true]
  rw [if_neg (by simp)]
  exact Ev.now _
end Go.Proofs.YtclidnndehbhjaaDoor.Pure
