/-
  Fractions in lowest terms: the reference's and the program's alike.
-/
import Derived.Test.YtclidnndehbhjaaDoorLemWalk
namespace Go.Proofs.YtclidnndehbhjaaDoor.Lem
open Go.RowKit Go.Proofs.YtclidnndehbhjaaDoor.PA Go.Proofs.YtclidnndehbhjaaDoorW.PrintWords Go.Proofs.YtclidnndehbhjaaDoorW.PrintLast Go.Proofs.YtclidnndehbhjaaDoorW.PrintMore Go.Proofs.YtclidnndehbhjaaDoor.Ring
set_option linter.unusedVariables false
set_option linter.unusedSimpArgs false

def low (a b : Nat) : Int × Int := (((a / Nat.gcd a b : Nat) : Int), ((b / Nat.gcd a b : Nat) : Int))
theorem tmod_nat (a b : Nat) : Int.tmod (a : Int) (b : Int) = ((a % b : Nat) : Int) := by
  rw [Int.tmod_eq_emod_of_nonneg (by omega)]
  omega
theorem tdiv_nat (a b : Nat) : Int.tdiv (a : Int) (b : Int) = ((a / b : Nat) : Int) := by
  rw [Int.tdiv_eq_ediv_of_nonneg (by omega)]
  omega
theorem waLow_l0 (a b : Nat) (ha : a ≤ 4611686018427387904) (hb : b ≤ 4611686018427387904) : ∀ (n m k : Nat), n < k → Nat.gcd m n ≠ 0 →
    spec_waLow.l0 k (a : Int) (b : Int) (m : Int) (n : Int) = some (((a / Nat.gcd m n : Nat) : Int), ((b / Nat.gcd m n : Nat) : Int)) := by
  intro n
  induction n using Nat.strongRecOn with
  | _ n ih =>
    intro m k hk hg
    obtain ⟨k, rfl⟩ : ∃ j, k = j + 1 := ⟨k - 1, by omega⟩
    simp only [spec_waLow.l0]
    by_cases h : n = 0
    · subst h
      rw [Nat.gcd_zero_right] at hg ⊢
      rw [if_neg (by omega), if_neg (by omega), tdiv_nat, tdiv_nat]
      have h1 := Nat.div_le_self a m
      have h2 := Nat.div_le_self b m
      generalize a / m = x at h1 ⊢
      generalize b / m = y at h2 ⊢
      rw [w64 (by omega) (by omega), w64 (by omega) (by omega)]
    · rw [if_pos (by omega), if_neg (by omega), tmod_nat]
      have hlt := Nat.mod_lt m (Nat.pos_of_ne_zero h)
      have e : Nat.gcd n (m % n) = Nat.gcd m n := by rw [Nat.gcd_comm m n, Nat.gcd_rec n m, Nat.gcd_comm]
      rw [ih (m % n) hlt n k (by omega) (by rw [e]; exact hg), e]
theorem lowest_l0 (a b : Nat) (ha : a ≤ 4611686018427387904) (hb : b ≤ 4611686018427387904) : ∀ (n m k : Nat), n < k → Nat.gcd m n ≠ 0 →
    impl_lowest.l0 k (a : Int) (b : Int) (m : Int) (n : Int) = some (((a / Nat.gcd m n : Nat) : Int), ((b / Nat.gcd m n : Nat) : Int)) := by
  intro n
  induction n using Nat.strongRecOn with
  | _ n ih =>
    intro m k hk hg
    obtain ⟨k, rfl⟩ : ∃ j, k = j + 1 := ⟨k - 1, by omega⟩
    simp only [impl_lowest.l0]
    by_cases h : n = 0
    · subst h
      rw [Nat.gcd_zero_right] at hg ⊢
      rw [if_neg (by omega), if_neg (by omega), tdiv_nat, tdiv_nat]
      have h1 := Nat.div_le_self a m
      have h2 := Nat.div_le_self b m
      generalize a / m = x at h1 ⊢
      generalize b / m = y at h2 ⊢
      rw [w64 (by omega) (by omega), w64 (by omega) (by omega)]
    · rw [if_pos (by omega), if_neg (by omega), tmod_nat]
      have hlt := Nat.mod_lt m (Nat.pos_of_ne_zero h)
      have e : Nat.gcd n (m % n) = Nat.gcd m n := by rw [Nat.gcd_comm m n, Nat.gcd_rec n m, Nat.gcd_comm]
      rw [ih (m % n) hlt n k (by omega) (by rw [e]; exact hg), e]
theorem waLow (a b : Nat) (ha : a ≤ 4611686018427387904) (hb : b ≤ 4611686018427387904) (h0 : 0 < b) : Ev (fun k => spec_waLow.f k (a : Int) (b : Int)) (low a b) :=
  Ev.of (k := b + 1) (fun k => spec_waLow.mono _ _ k) (waLow_l0 a b ha hb b a (b + 1) (by omega) (by have := Nat.gcd_pos_of_pos_right a h0; omega))
theorem lowest (a b : Nat) (ha : a ≤ 4611686018427387904) (hb : b ≤ 4611686018427387904) (h0 : 0 < b) : Ev (fun k => impl_lowest.f k (a : Int) (b : Int)) (low a b) :=
  Ev.of (k := b + 1) (fun k => impl_lowest.mono _ _ k) (lowest_l0 a b ha hb b a (b + 1) (by omega) (by have := Nat.gcd_pos_of_pos_right a h0; omega))
/-- Whatever the first number: both tell the same. -/
theorem low_l0_any : ∀ (n : Nat) (m x0 x1 : Int), 0 < n → ∃ r, ∀ k, n + 1 < k → spec_waLow.l0 k x0 x1 m (n : Int) = some r ∧ impl_lowest.l0 k x0 x1 m (n : Int) = some r := by
  intro n
  induction n using Nat.strongRecOn with
  | _ n ih =>
    intro m x0 x1 h0
    by_cases h : 0 < Int.tmod m (n : Int)
    · obtain ⟨j, hj⟩ := Int.eq_ofNat_of_zero_le (Int.le_of_lt h)
      have hlt : j < n := by
        have h1 := Int.natAbs_tmod m (n : Int)
        have h2 := Nat.mod_lt m.natAbs h0
        rw [hj] at h1
        simp only [Int.natAbs_natCast] at h1
        omega
      obtain ⟨r, hr⟩ := ih j hlt (n : Int) x0 x1 (by omega)
      refine ⟨r, fun k hk => ?_⟩
      obtain ⟨k, rfl⟩ : ∃ j, k = j + 1 := ⟨k - 1, by omega⟩
      obtain ⟨r1, r2⟩ := hr k (by omega)
      constructor
      · simp only [spec_waLow.l0]
        rw [if_pos (by omega), if_neg (by omega), hj]
        exact r1
      · simp only [impl_lowest.l0]
        rw [if_pos (by omega), if_neg (by omega), hj]
        exact r2
    · refine ⟨(wrap64 (Int.tdiv x0 n), wrap64 (Int.tdiv x1 n)), fun k hk => ?_⟩
      obtain ⟨k, rfl⟩ : ∃ j, k = j + 2 := ⟨k - 2, by omega⟩
      constructor
      · simp only [spec_waLow.l0]
        rw [if_pos (by omega), if_neg (by omega), if_neg h, if_neg (by omega)]
      · simp only [impl_lowest.l0]
        rw [if_pos (by omega), if_neg (by omega), if_neg h, if_neg (by omega)]
theorem low_any (a : Int) (b : Nat) (hb : 0 < b) : ∃ r, Ev (fun k => spec_waLow.f k a (b : Int)) r ∧ Ev (fun k => impl_lowest.f k a (b : Int)) r := by
  obtain ⟨r, hr⟩ := low_l0_any b a a (b : Int) hb
  exact ⟨r, Ev.of (k := b + 2) (fun k => spec_waLow.mono _ _ k) (hr (b + 2) (by omega)).1, Ev.of (k := b + 2) (fun k => impl_lowest.mono _ _ k) (hr (b + 2) (by omega)).2⟩
theorem low_self {a : Nat} (h : 0 < a) : low a a = (1, 1) := by
  unfold low
  rw [Nat.gcd_self, Nat.div_self h]
  rfl
theorem low_zero {a : Nat} (h : 0 < a) : low 0 a = (0, 1) := by
  unfold low
  rw [Nat.gcd_zero_left, Nat.div_self h, Nat.zero_div]
  rfl
def dist (a b : Nat) : Nat := (a - b) + (b - a)
theorem apart {a b : Nat} (ha : a < 1048576) (hb : b < 1048576) : impl_apart.f (a : Int) (b : Int) = some (dist a b : Int) := by
  unfold impl_apart.f dist mx
  rw [w64 (by omega) (by omega), w64 (by omega) (by omega)]
  congr 1
  split <;> omega
theorem l1Abs {a b : Nat} (ha : a < 1048576) (hb : b < 1048576) : spec_l1Abs.f (wrap64 ((a : Int) - (b : Int))) = some (dist a b : Int) := by
  unfold spec_l1Abs.f spec_l1Most.f dist
  rw [w64 (n := (a : Int) - b) (by omega) (by omega), w64 (by omega) (by omega)]
  split <;> (simp only [obind]; congr 1; omega)
end Go.Proofs.YtclidnndehbhjaaDoor.Lem
