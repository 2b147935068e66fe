/-
  The states of so many rings, in the order of texts and in the order of their numbers: what is summed over them is the same.
-/
import Derived.Test.YtnmepnpjjnonmaaDoorLemText2K
namespace Go.Proofs.YtnmepnpjjnonmaaDoor.Lem
open Go.RowKit Go.Proofs.YtnmepnpjjnonmaaDoor.PK Go.Proofs.YtnmepnpjjnonmaaDoorW.PrintWords Go.Proofs.YtnmepnpjjnonmaaDoorW.PrintLast Go.Proofs.YtnmepnpjjnonmaaDoorW.PrintMore Go.Proofs.YtnmepnpjjnonmaaDoor.Ring
set_option linter.unusedVariables false
set_option linter.unusedSimpArgs false

/-- The states in the order of texts. -/
def tsK : Nat → List Stt
  | 0 => [[]]
  | n + 1 => (tsK n).flatMap (fun s => [s ++ [48], s ++ [49]])
def sumS (g : Stt → Nat) (l : List Stt) : Nat := (l.map g).sum
theorem sumS_append (g : Stt → Nat) (a b : List Stt) : sumS g (a ++ b) = sumS g a + sumS g b := by
  unfold sumS
  rw [List.map_append, List.sum_append]
theorem sumS_flat (g : Stt → Nat) : ∀ l : List Stt, sumS g (l.flatMap (fun s => [s ++ [48], s ++ [49]])) = sumS (fun s => g (s ++ [48]) + g (s ++ [49])) l
  | [] => rfl
  | s :: l => by
    rw [List.flatMap_cons, sumS_append, sumS_flat g l]
    simp only [sumS, List.map_cons, List.map_nil, List.sum_cons, List.sum_nil]
    omega
theorem sumS_congr {g h : Stt → Nat} (e : ∀ s, g s = h s) (l : List Stt) : sumS g l = sumS h l := by
  have : g = h := funext e
  rw [this]
theorem sum_front (g : Stt → Nat) : ∀ n, sumS g (tsK (n + 1)) = sumS (fun s => g (48 :: s) + g (49 :: s)) (tsK n)
  | 0 => by simp [tsK, sumS]
  | n + 1 => by
    have e1 : sumS g (tsK (n + 1 + 1)) = sumS (fun s => g (s ++ [48]) + g (s ++ [49])) (tsK (n + 1)) := sumS_flat g (tsK (n + 1))
    have e2 : sumS (fun s => g (48 :: s) + g (49 :: s)) (tsK (n + 1)) = sumS (fun s => (g (48 :: (s ++ [48])) + g (49 :: (s ++ [48]))) + (g (48 :: (s ++ [49])) + g (49 :: (s ++ [49])))) (tsK n) := sumS_flat _ (tsK n)
    rw [e1, e2, sum_front _ n]
    refine sumS_congr (fun s => ?_) (tsK n)
    simp only [List.cons_append]
    omega
/-- The sum over the numbers from 0 up to n. -/
def upS (g : Nat → Nat) : Nat → Nat
  | 0 => 0
  | n + 1 => upS g n + g n
theorem upS_two (g : Nat → Nat) : ∀ n, upS g (2 * n) = upS (fun j => g (2 * j) + g (2 * j + 1)) n
  | 0 => rfl
  | n + 1 => by
    have e : 2 * (n + 1) = 2 * n + 1 + 1 := by omega
    rw [e]
    simp only [upS]
    rw [upS_two g n]
    omega
theorem upS_congr {g h : Nat → Nat} : ∀ n, (∀ j, j < n → g j = h j) → upS g n = upS h n
  | 0, _ => rfl
  | n + 1, e => by
    simp only [upS]
    rw [upS_congr n (fun j hj => e j (by omega)), e n (by omega)]
theorem sign0 (j : Nat) : (sign (2 * j) 0 = 48 ∧ sign (2 * j + 1) 0 = 49) ∨ (sign (2 * j) 0 = 49 ∧ sign (2 * j + 1) 0 = 48) := by
  unfold sign
  have a1 : 2 * j / 2 ^ 0 % 2 = 0 := by simp
  have a2 : (2 * j + 1) / 2 ^ 0 % 2 = 1 := by simp
  have a3 : 2 * j / 2 ^ (0 + 1) = j := by simp
  have a4 : (2 * j + 1) / 2 ^ (0 + 1) = j := by simp; omega
  rw [a1, a2, a3, a4]
  by_cases h : j % 2 = 0
  · left; constructor
    · rw [if_pos (by omega)]
    · rw [if_neg (by omega)]
  · right; constructor
    · rw [if_neg (by omega)]
    · rw [if_pos (by omega)]
/-- In the order of numbers the sum is the same. -/
theorem sum_num : ∀ (n : Nat) (g : Stt → Nat), upS (fun i => g (stOf n i)) (2 ^ n) = sumS g (tsK n)
  | 0, g => by simp [upS, tsK, sumS, stOf]
  | n + 1, g => by
    rw [sum_front g n, ← sum_num n, Nat.pow_succ, Nat.mul_comm, upS_two]
    refine upS_congr _ (fun j _ => ?_)
    have d1 : 2 * j / 2 = j := by omega
    have d2 : (2 * j + 1) / 2 = j := by omega
    rw [stOf_succ, stOf_succ, d1, d2]
    rcases sign0 j with ⟨h1, h2⟩ | ⟨h1, h2⟩
    · rw [h1, h2]
    · rw [h1, h2]; omega
theorem tsK_length : ∀ n, (tsK n).length = 2 ^ n
  | 0 => rfl
  | n + 1 => by
    have : ∀ l : List Stt, (l.flatMap (fun s => [s ++ [48], s ++ [49]])).length = 2 * l.length := by
      intro l
      induction l with
      | nil => rfl
      | cons a l ih => rw [List.flatMap_cons, List.length_append, ih, List.length_cons]; simp; omega
    rw [tsK, this, tsK_length n, Nat.pow_succ]
    omega
theorem tsK_ok : ∀ n, ∀ s ∈ tsK n, okN n s
  | 0, s, h => by
    simp [tsK] at h
    subst h
    exact ⟨rfl, rfl⟩
  | n + 1, s, h => by
    rw [tsK, List.mem_flatMap] at h
    obtain ⟨t, ht, hs⟩ := h
    obtain ⟨h1, h2⟩ := tsK_ok n t ht
    simp only [List.mem_cons, List.not_mem_nil, or_false] at hs
    rcases hs with rfl | rfl
    · exact ⟨by rw [List.length_append, h1]; rfl, by rw [List.all_append, h2]; rfl⟩
    · exact ⟨by rw [List.length_append, h1]; rfl, by rw [List.all_append, h2]; rfl⟩
theorem sumS_le (g : Stt → Nat) (m : Nat) : ∀ l : List Stt, (∀ s ∈ l, g s ≤ m) → sumS g l ≤ l.length * m
  | [], _ => by simp [sumS]
  | s :: l, h => by
    have h1 := sumS_le g m l (fun t ht => h t (List.mem_cons_of_mem _ ht))
    have h2 := h s List.mem_cons_self
    simp only [sumS, List.map_cons, List.sum_cons, List.length_cons] at h1 ⊢
    rw [Nat.succ_mul]
    omega
end Go.Proofs.YtnmepnpjjnonmaaDoor.Lem
