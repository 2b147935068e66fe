/-
  The states with so many rings on: the reference's numbers of them, the program's states, the number of them.
-/
import Derived.Test.YtclidnndehbhjaaDoorLemRingB
import Derived.Test.YtclidnndehbhjaaDoorWith
namespace Go.Proofs.YtclidnndehbhjaaDoor.Lem
open Go.RowKit Go.Proofs.YtclidnndehbhjaaDoor.PB Go.Proofs.YtclidnndehbhjaaDoorW.PrintWords Go.Proofs.YtclidnndehbhjaaDoorW.PrintLast Go.Proofs.YtclidnndehbhjaaDoorW.PrintMore Go.Proofs.YtclidnndehbhjaaDoor.Ring
set_option linter.unusedVariables false
set_option linter.unusedSimpArgs false

/-- A number as the machine's, and the state with a number. -/
def zz (m : Nat) : Int := (m : Int)
def stB (r n : Nat) : ByteArray := ⟨(stOf r n).toArray⟩
theorem stB_data (r n : Nat) : (stB r n).data.toList = stOf r n := by simp [stB]
theorem stB_size (r n : Nat) : (stB r n).size = r := by rw [size_eq, stB_data, stOf_length]
theorem stB_isSt {r : Nat} (n : Nat) (h1 : 1 ≤ r) (h2 : r ≤ 20) : isSt (stB r n).data.toList = true := by
  rw [stB_data]
  simp [isSt, stOf_length, h1, h2, stOf_ok]
theorem pow12 {r : Nat} (h : r ≤ 12) : 2 ^ r ≤ 4096 := Nat.pow_le_pow_right (by decide) h
theorem int_eqn (a b : Nat) : ((a : Int) = (b : Int)) ↔ a = b := by omega
theorem succ64 {n : Nat} (h : n < 4611686018427387904) : wrap64 ((n : Int) + 1) = ((n + 1 : Nat) : Int) := by rw [w64 (by omega) (by omega)]; omega
theorem waWith_l0 (r on : Nat) (hr : r ≤ 12) : ∀ (d n : Nat), n + d = 2 ^ r → Ev (fun k => spec_waWith.l0 k (r : Int) (on : Int) ((withU r on n).map zz) (n : Int)) ((withL r on).map zz) := by
  intro d
  have hp := pow12 hr
  induction d with
  | zero =>
    intro n hd
    refine Ev.step (f := fun _ => some ((withL r on).map zz)) (fun k => ?_) (Ev.now _)
    simp only [spec_waWith.l0]
    rw [shl_one r (by omega), if_pos (by omega), if_neg (by omega)]
    have : n = 2 ^ r := by omega
    subst this
    rfl
  | succ d ih =>
    intro n hd
    have h2 := ih (n + 1) (by omega)
    have hl := withU_len r on n
    refine Ev.step (f := fun k => (spec_riState.f k (r : Int) (n : Int)).bind fun t104 => ((spec_riOn.f k t104).bind fun t105 => (if t105 = (on : Int) then (spec_waWith.l0 k (r : Int) (on : Int) ((withU r on n).map zz ++ [zz n]) ((n + 1 : Nat) : Int)) else (spec_waWith.l0 k (r : Int) (on : Int) ((withU r on n).map zz) ((n + 1 : Nat) : Int))))) (fun k => ?_) ?_
    · simp only [spec_waWith.l0]
      rw [shl_one r (by omega), if_pos (by omega), if_pos (by omega), if_pos (by rw [List.length_map]; omega), succ64 (by omega)]
      rfl
    · refine Ev.bind (riState r n (by omega) (by omega)) (Ev.bind (riOn _ (by show (stB r n).size ≤ _; rw [stB_size]; omega)) ?_)
      rw [show ((⟨(stOf r n).toArray⟩ : ByteArray).data.toList) = stOf r n from by simp]
      rw [withU_succ] at h2
      by_cases h : ones (stOf r n) = on
      · rw [if_pos h, List.map_append] at h2
        exact Ev.congr (fun k => if_pos (by omega)) h2
      · rw [if_neg h] at h2
        exact Ev.congr (fun k => if_neg (by omega)) h2
theorem waWith (r on : Nat) (hr : r ≤ 12) : Ev (fun k => spec_waWith.f k (r : Int) (on : Int)) ((withL r on).map zz) := waWith_l0 r on hr (2 ^ r) 0 (by omega)
theorem take_eq (r on n : Nat) (hr1 : 1 ≤ r) (hr : r ≤ 12) (hn : n < 2 ^ r) : Ev (fun k => impl_withOn.take (r : Int) (on : Int) k (n : Int)) (decide (ones (stOf r n) = on)) := by
  have hp := pow12 hr
  unfold impl_withOn.take
  refine Ev.bind (state r n (by omega) (by omega)) ?_
  have hc := countOn (stB r n) (stB_isSt n hr1 (by omega))
  refine Ev.congr (fun k => ?_) (Ev.now _)
  show (impl_CountOn.f (stB r n)).bind _ = _
  rw [hc, obind, stB_data]
  simp only [int_beq]
theorem withOn_l0 (r on : Nat) (hr1 : 1 ≤ r) (hr : r ≤ 12) : ∀ (d n : Nat), n + d = 2 ^ r → Ev (fun k => impl_withNumbers.l0 (impl_withOn.take (r : Int) (on : Int)) k (r : Int) ((withU r on n).map (stB r)) (n : Int)) ((withL r on).map (stB r)) := by
  intro d
  have hp := pow12 hr
  induction d with
  | zero =>
    intro n hd
    refine Ev.step (f := fun _ => some ((withL r on).map (stB r))) (fun k => ?_) (Ev.now _)
    simp only [impl_withNumbers.l0]
    rw [shl_one r (by omega), if_neg (by omega)]
    have : n = 2 ^ r := by omega
    subst this
    rfl
  | succ d ih =>
    intro n hd
    have h2 := ih (n + 1) (by omega)
    have hl := withU_len r on n
    refine Ev.step (f := fun k => (impl_withOn.take (r : Int) (on : Int) k (n : Int)).bind fun b => if b = true then ((impl_state.f k (r : Int) (n : Int)).bind fun s => impl_withNumbers.l0 (impl_withOn.take (r : Int) (on : Int)) k (r : Int) ((withU r on n).map (stB r) ++ [s]) ((n + 1 : Nat) : Int)) else impl_withNumbers.l0 (impl_withOn.take (r : Int) (on : Int)) k (r : Int) ((withU r on n).map (stB r)) ((n + 1 : Nat) : Int)) (fun k => ?_) ?_
    · simp only [impl_withNumbers.l0]
      rw [shl_one r (by omega), if_pos (by omega), succ64 (by omega)]
      have hlen : ((withU r on n).map (stB r)).length < 8796093022208 := by rw [List.length_map]; omega
      simp only [if_pos hlen]
    · refine Ev.bind (take_eq r on n hr1 hr (by omega)) ?_
      rw [withU_succ] at h2
      by_cases h : ones (stOf r n) = on
      · rw [if_pos h, List.map_append] at h2
        refine Ev.congr (fun k => if_pos (decide_eq_true h)) (Ev.bind (state r n (by omega) (by omega)) h2)
      · rw [if_neg h] at h2
        exact Ev.congr (fun k => if_neg (by simp [h])) h2
theorem withOn (r on : Nat) (hr1 : 1 ≤ r) (hr : r ≤ 12) : Ev (fun k => impl_withOn.f k (r : Int) (on : Int)) ((withL r on).map (stB r)) := by
  unfold impl_withOn.f impl_withNumbers.f
  exact Ev.congr (fun k => if_pos (by omega)) (withOn_l0 r on hr1 hr (2 ^ r) 0 (by omega))
/-- Whether there are rings, and so many that are on. -/
def onB (a b : Int) : Bool := decide (1 ≤ a ∧ a ≤ 12) && decide (0 ≤ b ∧ b ≤ a)
theorem waOn (a b : Int) : spec_waOn.f a b = some (onB a b) := by
  unfold spec_waOn.f spec_waRings.f onB
  rw [l1In_eq, l1In_eq]
  simp only [obind]
  cases h : decide (1 ≤ a ∧ a ≤ 12) <;> simp
theorem isOn (a b : Int) : impl_isOn.f a b = some (onB a b) := by
  unfold impl_isOn.f impl_areWalks.f onB
  rw [in_eq, in_eq]
  simp only [obind]
  cases h : decide (1 ≤ a ∧ a ≤ 12) <;> simp
theorem onB_nat {a b : Int} (h : onB a b = true) : ∃ r on : Nat, a = (r : Int) ∧ b = (on : Int) ∧ 1 ≤ r ∧ r ≤ 12 ∧ on ≤ r := by
  simp only [onB, Bool.and_eq_true, decide_eq_true_eq] at h
  exact ⟨a.toNat, b.toNat, by omega, by omega, by omega, by omega, by omega⟩
theorem withL_pos {r on : Nat} (h : on ≤ r) : 0 < (withL r on).length := by rw [withL_len]; exact pas_pos r on h
theorem rdOf_map (l : List Nat) (f : Nat → ByteArray) (i : Nat) (hi : i < l.length) : rdOf ByteArray.empty (l.map f) (i : Int) = f l[i] := by
  show (l.map f).getD i ByteArray.empty = _
  simp [List.getD, hi]
theorem rd_map (l : List Nat) (i : Nat) (hi : i < l.length) : rd (l.map zz) (i : Int) = ((l[i] : Nat) : Int) := by
  show (l.map zz).getD i 0 = _
  simp [List.getD, hi, zz]
end Go.Proofs.YtclidnndehbhjaaDoor.Lem
