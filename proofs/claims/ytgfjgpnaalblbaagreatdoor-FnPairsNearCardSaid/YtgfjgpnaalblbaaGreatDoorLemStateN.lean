/-
  The state with a number, as the program tells it (lines of LemRing).
-/
import Derived.Test.YtgfjgpnaalblbaaGreatDoorLemSymAN
namespace Go.Proofs.YtgfjgpnaalblbaaGreatDoor.Lem
open Go.RowKit Go.Proofs.YtgfjgpnaalblbaaGreatDoor.PN Go.Proofs.YtgfjgpnaalblbaaGreatDoorW.PrintWords Go.Proofs.YtgfjgpnaalblbaaGreatDoorW.PrintLast Go.Proofs.YtgfjgpnaalblbaaGreatDoorW.PrintMore Go.Proofs.YtgfjgpnaalblbaaGreatDoor.Ring
set_option linter.unusedVariables false
set_option linter.unusedSimpArgs false
theorem state_l0 (r n : Nat) (hr : r ≤ 60) (hn : n < 4611686018427387904) : ∀ (d j k : Nat) (x : List Int), j ≤ r → r - j = d → d < k → x.length = r → (∀ i, i < j → x[i]? = some ((sign n i).toNat : Int)) →
    impl_state.l0 k (((n ^^^ n / 2 : Nat)) : Int) x (r : Int) (j : Int) = some ⟨(stOf r n).toArray⟩ := by
  have hx62 : n ^^^ n / 2 < 2 ^ 62 := Nat.xor_lt_two_pow (by omega) (by omega)
  intro d
  induction d with
  | zero =>
    intro j k x hj hd hk hl hx
    obtain ⟨k, rfl⟩ : ∃ j, k = j + 1 := ⟨k - 1, by omega⟩
    have : j = r := by omega
    subst this
    simp only [impl_state.l0]
    rw [if_neg (by omega)]
    have e : x = (stOf j n).map fun b => (b.toNat : Int) := by
      apply List.ext_getElem?
      intro i
      by_cases hi : i < j
      · rw [hx i hi]
        simp [stOf, hi]
      · rw [List.getElem?_eq_none (by omega), List.getElem?_eq_none (by simp [stOf]; omega)]
    rw [e, Go.Lib.Lz.strOfNums_map]
  | succ d ih =>
    intro j k x hj hd hk hl hx
    obtain ⟨k, rfl⟩ : ∃ j, k = j + 1 := ⟨k - 1, by omega⟩
    have ew : wrap64 ((j : Int) + 1) = ((j + 1 : Nat) : Int) := by rw [w64 (by omega) (by omega)]; omega
    simp only [impl_state.l0]
    rw [if_pos (by omega), if_pos (by omega), if_pos (by omega), ew, shr_nat _ _ (by omega), and_one _ (div_lt_big _ j (by omega)), sign_xor]
    apply ih (j + 1) k _ (by omega) (by omega) (by omega) (by simpa using hl)
    intro i hi
    have ej : (j : Int).toNat = j := rfl
    rw [ej]
    by_cases hij : i = j
    · subst hij
      rw [List.getElem?_set_self (by omega)]
      unfold sign
      split <;> rfl
    · rw [List.getElem?_set_ne (by omega)]
      exact hx i (by omega)
theorem state (r n : Nat) (hr : r ≤ 60) (hn : n < 4611686018427387904) : Ev (fun k => impl_state.f k (r : Int) (n : Int)) ⟨(stOf r n).toArray⟩ := by
  refine Ev.of (k := r + 1) (fun k => impl_state.mono _ _ k) ?_
  unfold impl_state.f
  have er : (r : Int).toNat = r := rfl
  rw [if_pos (by omega), er, if_pos (by omega), tdiv_two, w64 (by omega) (by omega), xor_nat _ _ (by omega) (by omega)]
  simp only [obind, List.length_replicate]
  exact state_l0 r n hr hn r 0 (r + 1) _ (by omega) (by omega) (by omega) (by simp) (fun i hi => absurd hi (by omega))
end Go.Proofs.YtgfjgpnaalblbaaGreatDoor.Lem
