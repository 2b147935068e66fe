/-
  The numbers of the states with so many rings on, and how many they are (Pascal's triangle). Plain Lean.
-/
import Derived.Test.YtclidnndehbhjaaDoorRing
namespace Go.Proofs.YtclidnndehbhjaaDoor.Ring

/-- The numbers below a bound of the states with so many on, increasing. -/
def withU (r on n : Nat) : List Nat := (List.range n).filter (fun m => ones (stOf r m) == on)
def withL (r on : Nat) : List Nat := withU r on (2 ^ r)
theorem withU_succ (r on n : Nat) : withU r on (n + 1) = if ones (stOf r n) = on then withU r on n ++ [n] else withU r on n := by
  unfold withU
  rw [List.range_succ, List.filter_append]
  by_cases h : ones (stOf r n) = on
  · rw [if_pos h]
    simp [h]
  · rw [if_neg h]
    simp [h]
theorem withU_lt {r on n m : Nat} (h : m ∈ withU r on n) : m < n := by
  unfold withU at h
  simp only [List.mem_filter, List.mem_range] at h
  exact h.1
theorem withU_len (r on n : Nat) : (withU r on n).length ≤ n := by
  unfold withU
  have := List.length_filter_le (fun m => ones (stOf r m) == on) (List.range n)
  rw [List.length_range] at this
  exact this

def pas : Nat → Nat → Nat
  | 0, 0 => 1
  | 0, _ + 1 => 0
  | n + 1, 0 => pas n 0
  | n + 1, k + 1 => pas n (k + 1) + pas n k
theorem pas_zero : ∀ n, pas n 0 = 1
  | 0 => rfl
  | n + 1 => by rw [pas, pas_zero n]
theorem pas_pos : ∀ (n k : Nat), k ≤ n → 0 < pas n k
  | 0, 0, _ => by decide
  | 0, k + 1, h => by omega
  | n + 1, 0, _ => by rw [pas_zero]; omega
  | n + 1, k + 1, h => by
    have := pas_pos n k (by omega)
    rw [pas]
    omega
theorem ones_even (r m : Nat) : ones (stOf (r + 1) (2 * m)) = ones (stOf r m) + m % 2 := by
  rw [stOf_succ]
  have e : 2 * m / 2 = m := by omega
  have e2 : sign (2 * m) 0 = if m % 2 = 0 then 48 else 49 := by
    unfold sign
    rw [Nat.pow_zero, Nat.div_one, Nat.zero_add, Nat.pow_one, e]
    by_cases h : m % 2 = 0
    · rw [if_pos (by omega), if_pos h]
    · rw [if_neg (by omega), if_neg h]
  rw [e, e2]
  unfold ones
  by_cases h : m % 2 = 0
  · rw [if_pos h, List.count_cons_of_ne (by decide), h]; rfl
  · rw [if_neg h, List.count_cons_self]
    omega
theorem ones_odd (r m : Nat) : ones (stOf (r + 1) (2 * m + 1)) = ones (stOf r m) + (1 - m % 2) := by
  rw [stOf_succ]
  have e : (2 * m + 1) / 2 = m := by omega
  have e2 : sign (2 * m + 1) 0 = if m % 2 = 0 then 49 else 48 := by
    unfold sign
    rw [Nat.pow_zero, Nat.div_one, Nat.zero_add, Nat.pow_one, e]
    by_cases h : m % 2 = 0
    · rw [if_neg (by omega), if_pos h]
    · rw [if_pos (by omega), if_neg h]
  rw [e, e2]
  unfold ones
  by_cases h : m % 2 = 0
  · rw [if_pos h, List.count_cons_self, h]
  · rw [if_neg h, List.count_cons_of_ne (by decide)]
    omega
theorem withU_double (r on : Nat) : ∀ n, (withU (r + 1) (on + 1) (2 * n)).length = (withU r (on + 1) n).length + (withU r on n).length
  | 0 => by simp [withU]
  | n + 1 => by
    have ih := withU_double r on n
    have e : 2 * (n + 1) = 2 * n + 1 + 1 := by omega
    rw [e, withU_succ, withU_succ, withU_succ, withU_succ, ones_even, ones_odd]
    have hm : n % 2 = 0 ∨ n % 2 = 1 := by omega
    rcases hm with hm | hm
    · rw [hm]
      by_cases h1 : ones (stOf r n) = on
      · rw [if_pos (by omega), if_neg (by omega), if_neg (by omega), if_pos h1, List.length_append, List.length_append]
        simp only [List.length_cons, List.length_nil]
        omega
      · by_cases h2 : ones (stOf r n) = on + 1
        · rw [if_neg (by omega), if_pos (by omega), if_pos h2, if_neg h1, List.length_append, List.length_append]
          simp only [List.length_cons, List.length_nil]
          omega
        · rw [if_neg (by omega), if_neg (by omega), if_neg h2, if_neg h1]
          omega
    · rw [hm]
      by_cases h1 : ones (stOf r n) = on
      · rw [if_neg (by omega), if_pos (by omega), if_neg (by omega), if_pos h1, List.length_append, List.length_append]
        simp only [List.length_cons, List.length_nil]
        omega
      · by_cases h2 : ones (stOf r n) = on + 1
        · rw [if_pos (by omega), if_neg (by omega), if_pos h2, if_neg h1, List.length_append, List.length_append]
          simp only [List.length_cons, List.length_nil]
          omega
        · rw [if_neg (by omega), if_neg (by omega), if_neg h2, if_neg h1]
          omega
theorem withU_double0 (r : Nat) : ∀ n, (withU (r + 1) 0 (2 * n)).length = (withU r 0 n).length
  | 0 => by simp [withU]
  | n + 1 => by
    have ih := withU_double0 r n
    have e : 2 * (n + 1) = 2 * n + 1 + 1 := by omega
    rw [e, withU_succ, withU_succ, withU_succ, ones_even, ones_odd]
    have hm : n % 2 = 0 ∨ n % 2 = 1 := by omega
    rcases hm with hm | hm
    · rw [hm]
      by_cases h1 : ones (stOf r n) = 0
      · rw [if_neg (by omega), if_pos (by omega), if_pos h1, List.length_append, List.length_append]
        simp only [List.length_cons, List.length_nil]
        omega
      · rw [if_neg (by omega), if_neg (by omega), if_neg h1]
        omega
    · rw [hm]
      by_cases h1 : ones (stOf r n) = 0
      · rw [if_pos (by omega), if_neg (by omega), if_pos h1, List.length_append, List.length_append]
        simp only [List.length_cons, List.length_nil]
        omega
      · rw [if_neg (by omega), if_neg (by omega), if_neg h1]
        omega
/-- How many states have so many on. -/
theorem withL_len : ∀ (r on : Nat), (withL r on).length = pas r on
  | 0, 0 => by decide
  | 0, on + 1 => by
    have : withL 0 (on + 1) = [] := by
      unfold withL
      rw [Nat.pow_zero, withU_succ, if_neg (by simp [stOf, ones])]
      rfl
    rw [this]
    rfl
  | r + 1, 0 => by
    unfold withL
    rw [Nat.pow_succ, Nat.mul_comm, withU_double0, pas, ← withL_len r 0]
    rfl
  | r + 1, on + 1 => by
    unfold withL
    rw [Nat.pow_succ, Nat.mul_comm, withU_double, pas, ← withL_len r (on + 1), ← withL_len r on]
    rfl
end Go.Proofs.YtclidnndehbhjaaDoor.Ring
