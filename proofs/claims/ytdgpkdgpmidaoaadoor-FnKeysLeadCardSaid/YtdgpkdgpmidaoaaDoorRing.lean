/-
  Rings on a bar, in plain Lean: states as lists of signs, their numbers, the state with a number. No program in sight.
-/
namespace Go.Proofs.YtdgpkdgpmidaoaaDoor.Ring

def okc (c : UInt8) : Bool := c == 48 || c == 49
def isSt (l : List UInt8) : Bool := decide (1 ≤ l.length) && decide (l.length ≤ 20) && l.all okc

/-- Whether the rings from one on that are on are odd in number. -/
def dig : List UInt8 → Nat
  | [] => 0
  | c :: l => if c = 49 then 1 - dig l else dig l
def num : List UInt8 → Nat
  | [] => 0
  | c :: l => 2 * num l + dig (c :: l)
def bitsN : List UInt8 → Nat
  | [] => 0
  | c :: l => 2 * bitsN l + (c.toNat - 48)
def ones (l : List UInt8) : Nat := l.count 49

theorem dig_lt : ∀ l, dig l < 2
  | [] => by simp [dig]
  | c :: l => by have := dig_lt l; unfold dig; split <;> omega
theorem num_lt : ∀ l, num l < 2 ^ l.length
  | [] => by simp [num]
  | c :: l => by
    have := num_lt l
    have := dig_lt (c :: l)
    simp only [num, List.length_cons, Nat.pow_succ]
    omega
theorem okc_cases {c : UInt8} (h : okc c = true) : c = 48 ∨ c = 49 := by simpa [okc] using h
theorem bitsN_lt : ∀ l, l.all okc = true → bitsN l < 2 ^ l.length
  | [], _ => by simp [bitsN]
  | c :: l, h => by
    simp only [List.all_cons, Bool.and_eq_true] at h
    have := bitsN_lt l h.2
    simp only [bitsN, List.length_cons, Nat.pow_succ]
    rcases okc_cases h.1 with rfl | rfl
    · have e : (48 : UInt8).toNat - 48 = 0 := rfl
      omega
    · have e : (49 : UInt8).toNat - 48 = 1 := rfl
      omega

theorem testBit_two_mul_add (a b i : Nat) (hb : b < 2) : (2 * a + b).testBit (i + 1) = a.testBit i := by
  rw [Nat.testBit_succ]
  congr 1
  omega
theorem testBit_two_mul_add_zero (a b : Nat) (hb : b < 2) : (2 * a + b).testBit 0 = decide (b = 1) := by
  rw [Nat.testBit_zero]
  congr 1
  exact propext ⟨fun h => by omega, fun h => by omega⟩

theorem num_testBit : ∀ (l : List UInt8) (i : Nat), (num l).testBit i = decide (dig (l.drop i) = 1)
  | [], i => by simp [num, dig]
  | c :: l, 0 => by
    rw [num, testBit_two_mul_add_zero _ _ (dig_lt _)]
    rfl
  | c :: l, i + 1 => by
    rw [num, testBit_two_mul_add _ _ _ (dig_lt _), num_testBit l i]
    rfl
theorem bitsN_testBit : ∀ (l : List UInt8) (i : Nat), l.all okc = true → (bitsN l).testBit i = decide (l[i]? = some 49)
  | [], i, _ => by simp [bitsN]
  | c :: l, 0, h => by
    simp only [List.all_cons, Bool.and_eq_true] at h
    have hb : c.toNat - 48 < 2 := by rcases okc_cases h.1 with rfl | rfl <;> decide
    rw [bitsN, testBit_two_mul_add_zero _ _ hb]
    rcases okc_cases h.1 with rfl | rfl <;> simp
  | c :: l, i + 1, h => by
    simp only [List.all_cons, Bool.and_eq_true] at h
    have hb : c.toNat - 48 < 2 := by rcases okc_cases h.1 with rfl | rfl <;> decide
    rw [bitsN, testBit_two_mul_add _ _ _ hb, bitsN_testBit l i h.2]
    simp

theorem dig_drop (l : List UInt8) (i : Nat) : dig (l.drop i) = if l[i]? = some 49 then 1 - dig (l.drop (i + 1)) else dig (l.drop (i + 1)) := by
  by_cases h : i < l.length
  · rw [List.drop_eq_getElem_cons h, dig, List.getElem?_eq_getElem h]
    simp
  · rw [List.drop_eq_nil_of_le (by omega), List.drop_eq_nil_of_le (by omega), List.getElem?_eq_none (by omega)]
    simp
/-- The number of a state is its signs as digits, and the number of the rings behind the first one, summed without carry. -/
theorem num_cons (c : UInt8) (l : List UInt8) (h : (c :: l).all okc = true) : num (c :: l) = bitsN (c :: l) ^^^ num l := by
  apply Nat.eq_of_testBit_eq
  intro i
  rw [Nat.testBit_xor, num_testBit, bitsN_testBit _ _ h, num_testBit]
  have e : (c :: l).drop (i + 1) = l.drop i := rfl
  rw [dig_drop (c :: l) i, e]
  have := dig_lt (l.drop i)
  by_cases h1 : (c :: l)[i]? = some 49
  · rw [if_pos h1]
    by_cases h2 : dig (l.drop i) = 1
    · simp [h1, h2]
    · have : dig (l.drop i) = 0 := by omega
      simp [h1, this]
  · rw [if_neg h1]
    simp [h1]
theorem bitsN_zero : ∀ l, l.all okc = true → bitsN l = 0 → num l = 0 := by
  intro l
  induction l with
  | nil => intro _ _; rfl
  | cons c l ih =>
    intro h e
    have h' := h
    simp only [List.all_cons, Bool.and_eq_true] at h'
    have e2 : bitsN l = 0 := by simp only [bitsN] at e; omega
    rw [num_cons c l h, e, ih h'.2 e2]
    rfl
theorem bitsN_half (c : UInt8) (l : List UInt8) (h : okc c = true) : bitsN (c :: l) / 2 = bitsN l := by
  rcases okc_cases h with rfl | rfl <;> simp [bitsN] <;> omega

/-- The state of so many rings with a number. -/
def sign (n k : Nat) : UInt8 := if n / 2 ^ k % 2 = n / 2 ^ (k + 1) % 2 then 48 else 49
def stOf (r n : Nat) : List UInt8 := (List.range r).map (sign n)
theorem stOf_length (r n : Nat) : (stOf r n).length = r := by simp [stOf]
theorem sign_ok (n k : Nat) : okc (sign n k) = true := by unfold sign; split <;> rfl
theorem stOf_ok (r n : Nat) : (stOf r n).all okc = true := by simp [stOf, sign_ok]
theorem stOf_succ (r n : Nat) : stOf (r + 1) n = sign n 0 :: stOf r (n / 2) := by
  unfold stOf
  rw [List.range_succ_eq_map]
  simp only [List.map_cons, List.map_map]
  congr 1
  apply List.map_congr_left
  intro k _
  simp only [Function.comp_apply, sign, Nat.succ_eq_add_one]
  have e1 : n / 2 ^ (k + 1) = n / 2 / 2 ^ k := by rw [Nat.pow_succ, Nat.mul_comm (2 ^ k) 2, Nat.div_div_eq_div_mul]
  have e2 : n / 2 ^ (k + 1 + 1) = n / 2 / 2 ^ (k + 1) := by rw [Nat.pow_succ 2 (k + 1), Nat.mul_comm (2 ^ (k + 1)) 2, Nat.div_div_eq_div_mul]
  rw [e1, e2]
theorem dig_stOf : ∀ (r n : Nat), n < 2 ^ r → dig (stOf r n) = n % 2
  | 0, n, h => by simp [stOf, dig]; omega
  | r + 1, n, h => by
    rw [stOf_succ, dig, dig_stOf r (n / 2) (by rw [Nat.pow_succ] at h; omega)]
    have e : sign n 0 = if n % 2 = n / 2 % 2 then 48 else 49 := by simp [sign]
    rw [e]
    by_cases h1 : n % 2 = n / 2 % 2
    · rw [if_pos h1, if_neg (by decide)]; omega
    · rw [if_neg h1, if_pos rfl]; omega
theorem num_stOf : ∀ (r n : Nat), n < 2 ^ r → num (stOf r n) = n
  | 0, n, h => by simp [stOf, num]; omega
  | r + 1, n, h => by
    have h' : n / 2 < 2 ^ r := by rw [Nat.pow_succ] at h; omega
    have e := dig_stOf (r + 1) n h
    rw [stOf_succ] at e ⊢
    rw [num, num_stOf r (n / 2) h', e]
    omega
theorem num_half (c : UInt8) (l : List UInt8) : num (c :: l) / 2 = num l := by
  have := dig_lt (c :: l)
  rw [num]
  omega
theorem num_mod (c : UInt8) (l : List UInt8) : num (c :: l) % 2 = dig (c :: l) := by
  have := dig_lt (c :: l)
  rw [num]
  omega
theorem num_mod' (l : List UInt8) : num l % 2 = dig l := by
  cases l with
  | nil => rfl
  | cons c l => exact num_mod c l
theorem stOf_num : ∀ l : List UInt8, l.all okc = true → stOf l.length (num l) = l
  | [], _ => rfl
  | c :: l, h => by
    have h' := h
    simp only [List.all_cons, Bool.and_eq_true] at h'
    rw [List.length_cons, stOf_succ, num_half, stOf_num l h'.2]
    congr 1
    have e : sign (num (c :: l)) 0 = if num (c :: l) % 2 = num (c :: l) / 2 % 2 then 48 else 49 := by simp [sign]
    rw [e, num_half, num_mod, num_mod', dig]
    have := dig_lt l
    rcases okc_cases h'.1 with rfl | rfl
    · simp
    · rw [if_pos rfl, if_neg (by omega)]
theorem num_inj {a b : List UInt8} (ha : a.all okc = true) (hb : b.all okc = true) (hl : a.length = b.length) (h : num a = num b) : a = b := by
  rw [← stOf_num a ha, ← stOf_num b hb, hl, h]
end Go.Proofs.YtdgpkdgpmidaoaaDoor.Ring
