/-
  The states whose numbers are picked by a test: the program's list of them; a state's text as the reference tells it (lines of LemRing).
-/
import Derived.Test.YtgfjgpnaalblbaaGreatDoorLemStateN
namespace Go.Proofs.YtgfjgpnaalblbaaGreatDoor.Lem
open Go.RowKit Go.Proofs.YtgfjgpnaalblbaaGreatDoor.PN Go.Proofs.YtgfjgpnaalblbaaGreatDoorW.PrintWords Go.Proofs.YtgfjgpnaalblbaaGreatDoorW.PrintLast Go.Proofs.YtgfjgpnaalblbaaGreatDoorW.PrintMore Go.Proofs.YtgfjgpnaalblbaaGreatDoor.Ring Go.Proofs.YtgfjgpnaalblbaaGreatDoor.Bfs
set_option linter.unusedVariables false
set_option linter.unusedSimpArgs false
theorem riState_l0 (r n : Nat) (hr : r ≤ 60) (hn : n < 4611686018427387904) : ∀ (d j k : Nat), j ≤ r → r - j = d → d < k →
    spec_riState.l0 k (r : Int) (n : Int) ⟨(stOf j n).toArray⟩ (j : Int) = some ⟨(stOf r n).toArray⟩ := by
  intro d
  induction d with
  | zero =>
    intro j k hj hd hk
    obtain ⟨k, rfl⟩ : ∃ j, k = j + 1 := ⟨k - 1, by omega⟩
    have : j = r := by omega
    subst this
    simp only [spec_riState.l0]
    rw [if_neg (by omega)]
  | succ d ih =>
    intro j k hj hd hk
    obtain ⟨k, rfl⟩ : ∃ j, k = j + 1 := ⟨k - 1, by omega⟩
    have ew : wrap64 ((j : Int) + 1) = ((j + 1 : Nat) : Int) := by rw [w64 (by omega) (by omega)]; omega
    have e := ih (j + 1) k (by omega) (by omega) (by omega)
    simp only [spec_riState.l0]
    rw [if_pos (by omega), if_pos (by omega), ew, if_pos (by omega), shr_nat _ _ (by omega), shr_nat _ _ (by omega), and_one _ (div_lt_big n j hn), and_one _ (div_lt_big n (j + 1) hn)]
    have hsz : (⟨(stOf j n).toArray⟩ : ByteArray).size + 1 ≤ 9223372036854775807 := by rw [size_eq]; simp [stOf_length]; omega
    rw [if_pos hsz, append_one, append_one]
    rw [stOf_take] at e
    unfold sign at e
    by_cases h : n / 2 ^ j % 2 = n / 2 ^ (j + 1) % 2
    · rw [if_pos (by omega)]
      rw [if_pos h] at e
      exact e
    · rw [if_neg (by omega)]
      rw [if_neg h] at e
      rw [if_pos hsz]
      exact e
theorem riState (r n : Nat) (hr : r ≤ 60) (hn : n < 4611686018427387904) : Ev (fun k => spec_riState.f k (r : Int) (n : Int)) ⟨(stOf r n).toArray⟩ :=
  Ev.of (k := r + 1) (fun k => spec_riState.mono _ _ k) (riState_l0 r n hr hn r 0 (r + 1) (by omega) (by omega) (by omega))
/-- The numbers below a bound that a test picks. -/
def pickU (p : Nat → Bool) (n : Nat) : List Nat := (List.range n).filter p
theorem pickU_succ (p : Nat → Bool) (n : Nat) : pickU p (n + 1) = if p n = true then pickU p n ++ [n] else pickU p n := by
  unfold pickU
  rw [List.range_succ, List.filter_append]
  by_cases h : p n = true
  · rw [if_pos h]; simp [h]
  · rw [if_neg h]; simp [h]
theorem pickU_len (p : Nat → Bool) (n : Nat) : (pickU p n).length ≤ n := by
  unfold pickU
  have := List.length_filter_le p (List.range n)
  rw [List.length_range] at this
  exact this
def pickT (r : Nat) (p : Nat → Bool) (n : Nat) : List ByteArray := (pickU p n).map fun m => tx (stOf r m)
theorem pickT_len (r : Nat) (p : Nat → Bool) (n : Nat) : (pickT r p n).length ≤ n := by unfold pickT; rw [List.length_map]; exact pickU_len p n
theorem pickT_succ (r : Nat) (p : Nat → Bool) (n : Nat) : pickT r p (n + 1) = if p n = true then pickT r p n ++ [tx (stOf r n)] else pickT r p n := by
  unfold pickT
  rw [pickU_succ]
  by_cases h : p n = true
  · rw [if_pos h, if_pos h, List.map_append]; rfl
  · rw [if_neg h, if_neg h]
theorem withNums_l0 (take : Nat → Int → Option Bool) (p : Nat → Bool) (r : Nat) (hr : r ≤ 12) (ht : ∀ n : Nat, n < 2 ^ r → Ev (fun k => take k (n : Int)) (p n)) : ∀ (d n : Nat), n + d = 2 ^ r →
    Ev (fun k => impl_withNumbers.l0 take k (r : Int) (pickT r p n) (n : Int)) (pickT r p (2 ^ r)) := by
  intro d
  have h4096 := pow_le12 hr
  have hsh := shl_one r (by omega)
  induction d with
  | zero =>
    intro n hd
    have hn : n = 2 ^ r := by omega
    refine Ev.step (f := fun _ => some (pickT r p (2 ^ r))) (fun k => ?_) (Ev.now _)
    simp only [impl_withNumbers.l0]
    rw [hsh, hn, if_neg (Int.lt_irrefl _)]
  | succ d ih =>
    intro n hd
    have hlt : n < 2 ^ r := by omega
    have h2 := ih (n + 1) (by omega)
    have hl := pickT_len r p n
    have hlt' : (n : Int) < ((2 ^ r : Nat) : Int) := Int.ofNat_lt.2 hlt
    have hs1 : wrap64 ((n : Int) + 1) = ((n + 1 : Nat) : Int) := succ64 (by omega)
    rw [pickT_succ] at h2
    by_cases h : p n = true
    · rw [if_pos h] at h2
      have hst := state r n (by omega) (by omega)
      refine ev_num2 (ht n hlt) hst h2 (fun k hk1 hk2 => ?_)
      simp only [impl_withNumbers.l0]
      rw [hsh, if_pos hlt', hk1, obind, if_pos h, hk2, obind, if_pos (by omega), hs1]
      rfl
    · rw [if_neg h] at h2
      refine ev_num (ht n hlt) h2 (fun k hk1 => ?_)
      simp only [impl_withNumbers.l0]
      rw [hsh, if_pos hlt', hk1, obind, if_neg h, hs1]
theorem withNums (take : Nat → Int → Option Bool) (p : Nat → Bool) (r : Nat) (hr : r ≤ 12) (ht : ∀ n : Nat, n < 2 ^ r → Ev (fun k => take k (n : Int)) (p n)) :
    Ev (fun k => impl_withNumbers.f take k (r : Int)) (pickT r p (2 ^ r)) := by
  unfold impl_withNumbers.f
  exact Ev.congr (fun k => if_pos (Int.natCast_nonneg _)) (withNums_l0 take p r hr ht (2 ^ r) 0 (Nat.zero_add _))
/-- The search at one state, as a text. -/
theorem one_run {a : ByteArray} (h : goodP a.data.toList = true) : ∃ (r : Nat) (s : St Nat), 2 ≤ r ∧ r ≤ 12 ∧ a.data.toList.length = r ∧ num a.data.toList < 2 ^ r ∧ Final (nbr r) (num a.data.toList) s ∧
    Ev (fun k => spec_twFar.f k a) (farL (2 ^ r) s, wayL (2 ^ r) s) ∧ Ev (fun k => impl_search.f k a) (farL (2 ^ r) s, wayL (2 ^ r) s, qL r s) := by
  obtain ⟨a1, a2, a3, a4⟩ := goodP_len h
  obtain ⟨s, f, _, e1, e2⟩ := far_run a.data.toList a1 a2 a3
  rw [tx_self] at e1 e2
  exact ⟨_, s, a1, a2, rfl, num_lt _, f, e1, e2⟩
end Go.Proofs.YtgfjgpnaalblbaaGreatDoor.Lem
