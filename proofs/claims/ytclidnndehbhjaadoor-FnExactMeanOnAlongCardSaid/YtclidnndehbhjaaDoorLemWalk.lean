/-
  Means of walks: what the reference's and the program's functions come to.
-/
import Derived.Test.YtclidnndehbhjaaDoorLemRing
namespace Go.Proofs.YtclidnndehbhjaaDoor.Lem
open Go.RowKit Go.Proofs.YtclidnndehbhjaaDoor.PA Go.Proofs.YtclidnndehbhjaaDoorW.PrintWords Go.Proofs.YtclidnndehbhjaaDoorW.PrintLast Go.Proofs.YtclidnndehbhjaaDoorW.PrintMore Go.Proofs.YtclidnndehbhjaaDoor.Ring
set_option linter.unusedVariables false
set_option linter.unusedSimpArgs false

theorem mul_small {a b : Int} (ha : 0 ≤ a) (ha' : a ≤ 4194304) (hb : 0 ≤ b) (hb' : b ≤ 4194304) : 0 ≤ a * b ∧ a * b ≤ 17592186044416 := by
  refine ⟨Int.mul_nonneg ha hb, ?_⟩
  have h := Int.mul_le_mul ha' hb' hb (by omega)
  have e : (4194304 : Int) * 4194304 = 17592186044416 := by decide
  omega
/-- The mean number of moves from one number to another one, up to a last number. -/
def meanZ (a b last : Int) : Int := if a ≤ b then b * b - a * a else (last - b) * (last - b) - (last - a) * (last - a)
theorem waMean {a b last : Int} (ha : 0 ≤ a) (ha' : a ≤ last) (hb : 0 ≤ b) (hb' : b ≤ last) (hl : last ≤ 1048576) : spec_waMean.f a b last = some (meanZ a b last) := by
  unfold spec_waMean.f meanZ
  by_cases h : a ≤ b
  · rw [if_pos h, if_pos h]
    have h1 := mul_small ha (by omega) ha (by omega)
    have h2 := mul_small hb (by omega) hb (by omega)
    rw [w64 (n := b * b) (by omega) (by omega), w64 (n := a * a) (by omega) (by omega), w64 (by omega) (by omega)]
  · rw [if_neg h, if_neg h]
    rw [w64 (n := last - b) (by omega) (by omega), w64 (n := last - a) (by omega) (by omega)]
    have h1 := mul_small (a := last - a) (b := last - a) (by omega) (by omega) (by omega) (by omega)
    have h2 := mul_small (a := last - b) (b := last - b) (by omega) (by omega) (by omega) (by omega)
    rw [w64 (n := (last - b) * (last - b)) (by omega) (by omega), w64 (n := (last - a) * (last - a)) (by omega) (by omega), w64 (by omega) (by omega)]
theorem mean_id1 (a b last : Int) : ((last - a) - (last - b)) * (2 * (last - (last - b)) - ((last - a) - (last - b))) = b * b - a * a := by grind
theorem mean_id2 (a b last : Int) : (a - b) * (2 * (last - b) - (a - b)) = (last - b) * (last - b) - (last - a) * (last - a) := by grind
theorem mean {a b last : Int} (ha : 0 ≤ a) (ha' : a ≤ last) (hb : 0 ≤ b) (hb' : b ≤ last) (hl : last ≤ 1048576) : impl_mean.f a b last = some (meanZ a b last) := by
  unfold impl_mean.f meanZ
  by_cases h : a < b
  · rw [if_pos h, if_pos (by omega)]
    rw [w64 (n := last - b) (by omega) (by omega), w64 (n := last - a) (by omega) (by omega), w64 (n := last - (last - b)) (by omega) (by omega), w64 (n := (last - a) - (last - b)) (by omega) (by omega), w64 (n := 2 * _) (by omega) (by omega)]
    rw [w64 (n := 2 * (last - (last - b)) - ((last - a) - (last - b))) (by omega) (by omega)]
    have h1 := mul_small (a := (last - a) - (last - b)) (b := 2 * (last - (last - b)) - ((last - a) - (last - b))) (by omega) (by omega) (by omega) (by omega)
    rw [w64 (by omega) (by omega), mean_id1]
  · rw [if_neg h]
    rw [w64 (n := last - b) (by omega) (by omega), w64 (n := a - b) (by omega) (by omega), w64 (n := 2 * _) (by omega) (by omega)]
    rw [w64 (n := 2 * (last - b) - (a - b)) (by omega) (by omega)]
    have h1 := mul_small (a := a - b) (b := 2 * (last - b) - (a - b)) (by omega) (by omega) (by omega) (by omega)
    rw [w64 (by omega) (by omega), mean_id2]
    by_cases e : a = b
    · subst e
      rw [if_pos (Int.le_refl _), Int.sub_self, Int.sub_self]
    · rw [if_neg (by omega)]
/-- The last number of a state. -/
def lastN (l : List UInt8) : Int := ((2 ^ l.length : Nat) : Int) - 1
theorem last_eq (s : ByteArray) (h : s.data.toList.length ≤ 20) : wrap64 ((shl .i64 1 (s.size : Int)) - 1) = lastN s.data.toList := by
  rw [size_eq, shl_one _ (by omega)]
  have h1 : 2 ^ s.data.toList.length ≤ 2 ^ 20 := Nat.pow_le_pow_right (by decide) h
  have e : (2 : Nat) ^ 20 = 1048576 := rfl
  unfold lastN
  generalize 2 ^ s.data.toList.length = x at h1 ⊢
  exact w64 (by omega) (by omega)
theorem lastN_le {l : List UInt8} (h : l.length ≤ 20) : 0 ≤ lastN l ∧ lastN l ≤ 1048575 ∧ (num l : Int) ≤ lastN l := by
  have h1 : 2 ^ l.length ≤ 2 ^ 20 := Nat.pow_le_pow_right (by decide) h
  have e : (2 : Nat) ^ 20 = 1048576 := rfl
  have h2 := num_lt l
  have h3 : 0 < 2 ^ l.length := Nat.two_pow_pos _
  unfold lastN
  generalize 2 ^ l.length = x at h1 h2 h3 ⊢
  omega
theorem same2 {a b : Int × Bool} (h : a = b) : (if a.1 = b.1 then (if (a.2 != b.2) = true then some false else some true) else some false) = some true := by
  subst h
  simp
theorem same3 {a b : Int × Int × Bool} (h : a = b) : (if a.1 = b.1 then (if a.2.1 = b.2.1 then (if (a.2.2 != b.2.2) = true then some false else some true) else some false) else some false) = some true := by
  subst h
  simp
end Go.Proofs.YtclidnndehbhjaaDoor.Lem
