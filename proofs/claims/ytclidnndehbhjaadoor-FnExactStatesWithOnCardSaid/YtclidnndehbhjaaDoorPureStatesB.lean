/-
  The pure statement of the law on StatesWithOn.
-/
import Derived.Test.YtclidnndehbhjaaDoorLemWithB
import Derived.Test.YtclidnndehbhjaaDoorLemStrSB
import Derived.Test.YtclidnndehbhjaaDoorLemChosenB
namespace Go.Proofs.YtclidnndehbhjaaDoor.Pure
open Go.RowKit Go.Proofs.YtclidnndehbhjaaDoor.PB Go.Proofs.YtclidnndehbhjaaDoorW.PrintWords Go.Proofs.YtclidnndehbhjaaDoorW.PrintLast Go.Proofs.YtclidnndehbhjaaDoorW.PrintMore Go.Proofs.YtclidnndehbhjaaDoor.Ring Go.Proofs.YtclidnndehbhjaaDoor.Lem
set_option linter.unusedVariables false

theorem states_l0 (r on : Nat) (hr : r ≤ 12) : ∀ (d i : Nat), i + d = (withL r on).length →
    Ev (fun k => spec_StatesWithOn.l0 k (r : Int) (((withL r on).take i).map (stB r)) ((withL r on).map zz) ((withL r on).length : Int) (i : Int)) ((withL r on).map (stB r), true) := by
  intro d
  have h4096 := pow12 hr
  have hll : (withL r on).length ≤ 2 ^ r := withU_len r on (2 ^ r)
  induction d with
  | zero =>
    intro i hi
    rw [List.take_of_length_le (by omega)]
    refine Ev.step (f := fun _ => some ((withL r on).map (stB r), true)) (fun k => ?_) (Ev.now _)
    simp only [spec_StatesWithOn.l0]
    rw [if_neg (by omega)]
  | succ d ih =>
    intro i hi
    have hlt : i < (withL r on).length := by omega
    have hb : (withL r on)[i] < 2 ^ r := withU_lt (List.getElem_mem hlt)
    have h2 := ih (i + 1) (by omega)
    rw [List.take_succ_eq_append_getElem hlt, List.map_append] at h2
    refine Ev.step (f := fun k => (spec_riState.f k (r : Int) (((withL r on)[i] : Nat) : Int)).bind fun t181 => (spec_StatesWithOn.l0 k (r : Int) (((withL r on).take i).map (stB r) ++ [t181]) ((withL r on).map zz) ((withL r on).length : Int) ((i + 1 : Nat) : Int))) (fun k => ?_) (Ev.bind (riState r (withL r on)[i] (by omega) (by omega)) h2)
    simp only [spec_StatesWithOn.l0]
    rw [if_pos (by omega), if_pos (by omega), if_pos (by rw [List.length_map]; omega), rd_map _ i hlt, succ64 (by omega)]
    have hsm : (((withL r on).take i).map (stB r)).length < 8796093022208 := by rw [List.length_map, List.length_take]; omega
    simp only [if_pos hsm]
theorem states_spec (a0 a1 : Int) : ∃ v : List ByteArray × Bool, v.1.length ≤ 100 ∧ Ev (fun k => spec_StatesWithOn.f k a0 a1) v ∧ Ev (fun k => impl_StatesWithOn.f k a0 a1) v := by
  cases h : onB a0 a1 with
  | false =>
    refine ⟨([], false), by simp, ?_, ?_⟩
    · unfold spec_StatesWithOn.f
      rw [waOn, h]
      exact Ev.congr (fun k => by rw [obind, if_neg (by simp)]) (Ev.now _)
    · unfold impl_StatesWithOn.f
      rw [isOn, h]
      exact Ev.congr (fun k => by rw [obind, if_neg (by simp)]) (Ev.now _)
  | true =>
    obtain ⟨r, on, rfl, rfl, h1, h2, h3⟩ := onB_nat h
    have hc := chosen r on h2 h3
    have hlen := withL_len r on
    by_cases hbig : pas r on > 100
    · refine ⟨([], false), by simp, ?_, ?_⟩
      · unfold spec_StatesWithOn.f
        rw [waOn, h]
        refine Ev.congr (fun k => by rw [obind, if_pos rfl]) (Ev.bind (waWith r on h2) ?_)
        exact Ev.congr (fun k => if_pos (by rw [List.length_map]; omega)) (Ev.now _)
      · unfold impl_StatesWithOn.f
        rw [isOn, h]
        refine Ev.congr (fun k => by rw [obind, if_pos rfl]) (Ev.bind hc ?_)
        exact Ev.congr (fun k => if_pos (by omega)) (Ev.now _)
    · refine ⟨((withL r on).map (stB r), true), by simp only [List.length_map]; omega, ?_, ?_⟩
      · unfold spec_StatesWithOn.f
        rw [waOn, h]
        refine Ev.congr (fun k => by rw [obind, if_pos rfl]) (Ev.bind (waWith r on h2) ?_)
        rw [List.length_map]
        exact Ev.congr (fun k => if_neg (by omega)) (states_l0 r on h2 (withL r on).length 0 (by omega))
      · unfold impl_StatesWithOn.f
        rw [isOn, h]
        refine Ev.congr (fun k => by rw [obind, if_pos rfl]) (Ev.bind hc ?_)
        exact Ev.congr (fun k => if_neg (by omega)) (Ev.bind (withOn r on h1 h2) (Ev.now _))
theorem FnExactStatesWithOn : laws_FnExactStatesWithOn.Pure := by
  intro a0 a1 _ _
  obtain ⟨v, hl, h1, h2⟩ := states_spec a0 a1
  obtain ⟨m, hm1, hm2⟩ := marks v.1 (by omega)
  have he := eqSS v.1 (by omega)
  refine Ev.rounds ?_
  unfold laws_FnExactStatesWithOn.f
  refine Ev.bind h1 (Ev.bind h2 (Ev.bind he ?_))
  refine Ev.congr (fun k => if_pos rfl) ?_
  have hne : (v.2 != v.2) = false := by simp
  rw [hne]
  refine Ev.step (fun k => by simp only [laws_FnExactStatesWithOn.j0]; rw [if_neg (by simp)]) (Ev.bind hm1 (Ev.bind hm2 ?_))
  refine Ev.congr (fun k => by rw [if_neg (by omega), if_pos rfl]) (Ev.bind h2 (Ev.bind he ?_))
  refine Ev.congr (fun k => if_pos rfl) ?_
  simp only [hne]
  refine Ev.step (fun k => by simp only [laws_FnExactStatesWithOn.j1]; rw [if_neg (by simp)]) (Ev.bind hm2 ?_)
  exact Ev.congr (fun k => by rw [if_neg (by omega), if_pos rfl]) (Ev.now _)
end Go.Proofs.YtclidnndehbhjaaDoor.Pure
