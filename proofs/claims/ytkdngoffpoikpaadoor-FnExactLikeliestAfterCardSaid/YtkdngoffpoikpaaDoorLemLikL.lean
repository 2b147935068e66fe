/-
  What LikeliestAfter's print needs of walks (lines of LemWalk, LemSpread, PureWalks).
-/
import Derived.Test.YtkdngoffpoikpaaDoorLemRingLL
namespace Go.Proofs.YtkdngoffpoikpaaDoor.Lem
open Go.RowKit Go.Proofs.YtkdngoffpoikpaaDoor.PL Go.Proofs.YtkdngoffpoikpaaDoorW.PrintWords Go.Proofs.YtkdngoffpoikpaaDoorW.PrintLast Go.Proofs.YtkdngoffpoikpaaDoorW.PrintMore Go.Proofs.YtkdngoffpoikpaaDoor.Ring
set_option linter.unusedVariables false
set_option linter.unusedSimpArgs false
def lastN (l : List UInt8) : Int := ((2 ^ l.length : Nat) : Int) - 1
theorem last_eq (s : ByteArray) (h : s.data.toList.length ≤ 20) : wrap64 ((shl .i64 1 (s.size : Int)) - 1) = lastN s.data.toList := by
  rw [size_eq, shl_one _ (by omega)]
  have h1 : 2 ^ s.data.toList.length ≤ 2 ^ 20 := Nat.pow_le_pow_right (by decide) h
  have e : (2 : Nat) ^ 20 = 1048576 := rfl
  unfold lastN
  generalize 2 ^ s.data.toList.length = x at h1 ⊢
  exact w64 (by omega) (by omega)
theorem lastN_le {l : List UInt8} (h : l.length ≤ 20) : 0 ≤ lastN l ∧ lastN l ≤ 1048575 ∧ (num l : Int) ≤ lastN l := by
  have h1 : 2 ^ l.length ≤ 2 ^ 20 := Nat.pow_le_pow_right (by decide) h
  have e : (2 : Nat) ^ 20 = 1048576 := rfl
  have h2 := num_lt l
  have h3 : 0 < 2 ^ l.length := Nat.two_pow_pos _
  unfold lastN
  generalize 2 ^ l.length = x at h1 h2 h3 ⊢
  omega

theorem wrap_wrap (n : Int) : wrap64 (wrap64 n) = wrap64 n := by unfold wrap64; omega
/-- A value that is there after its wrap. -/
def Wd (v : Int) : Prop := wrap64 v = v
theorem wd_zero : Wd 0 := by unfold Wd wrap64; omega
theorem wd_one : Wd 1 := by unfold Wd wrap64; omega
def AllWd (l : List Int) : Prop := ∀ v ∈ l, Wd v
def addAt (l : List Int) (i : Nat) (v : Int) : List Int := l.set i (wrap64 (l.getD i 0 + v))
theorem addAt_length (l : List Int) (i : Nat) (v : Int) : (addAt l i v).length = l.length := by simp [addAt]
theorem addAt_wd {l : List Int} (h : AllWd l) (i : Nat) (v : Int) : AllWd (addAt l i v) := by
  intro x hx
  unfold addAt at hx
  rcases List.mem_or_eq_of_mem_set hx with hx | hx
  · exact h x hx
  · rw [hx]; exact wrap_wrap _
/-- One number's walks (or chances) handed on: at the ends they count e times. -/
def put (last : Nat) (e : Int) (now next : List Int) (n : Nat) : List Int :=
  let w := if n = 0 ∨ n = last then wrap64 (now.getD n 0 * e) else now.getD n 0
  let a := if 0 < n then addAt next (n - 1) w else next
  if n < last then addAt a (n + 1) w else a
theorem put_length (last : Nat) (e : Int) (now next : List Int) (n : Nat) : (put last e now next n).length = next.length := by
  unfold put
  simp only
  split <;> split <;> simp [addAt_length]
theorem put_wd (last : Nat) (e : Int) (now next : List Int) (n : Nat) (h : AllWd next) : AllWd (put last e now next n) := by
  unfold put
  simp only
  split <;> split <;> first | exact addAt_wd (addAt_wd h _ _) _ _ | exact addAt_wd h _ _ | exact h
def stepL (last : Nat) (e : Int) (now : List Int) : List Int := (List.range' 0 (last + 1)).foldl (put last e now) (List.replicate (last + 1) 0)
theorem foldl_put_length (last : Nat) (e : Int) (now : List Int) : ∀ (l : List Nat) (next : List Int), (l.foldl (put last e now) next).length = next.length
  | [], _ => rfl
  | n :: l, next => by rw [List.foldl_cons, foldl_put_length last e now l, put_length]
theorem foldl_put_wd (last : Nat) (e : Int) (now : List Int) : ∀ (l : List Nat) (next : List Int), AllWd next → AllWd (l.foldl (put last e now) next)
  | [], _, h => h
  | n :: l, next, h => by rw [List.foldl_cons]; exact foldl_put_wd last e now l _ (put_wd _ _ _ _ _ h)
theorem replicate_wd (n : Nat) : AllWd (List.replicate n 0) := by
  intro v hv
  rw [(List.mem_replicate.1 hv).2]
  exact wd_zero
theorem stepL_length (last : Nat) (e : Int) (now : List Int) : (stepL last e now).length = last + 1 := by unfold stepL; rw [foldl_put_length]; simp
theorem stepL_wd (last : Nat) (e : Int) (now : List Int) : AllWd (stepL last e now) := foldl_put_wd _ _ _ _ _ (replicate_wd _)
def walksL (last : Nat) (e : Int) : Nat → List Int → List Int
  | 0, now => now
  | m + 1, now => walksL last e m (stepL last e now)
theorem walksL_length (last : Nat) (e : Int) : ∀ (m : Nat) (now : List Int), now.length = last + 1 → (walksL last e m now).length = last + 1
  | 0, _, h => h
  | m + 1, now, h => walksL_length last e m _ (stepL_length _ _ _)
def startL (last from_ : Nat) : List Int := (List.replicate (last + 1) 0).set from_ 1
theorem startL_length (last from_ : Nat) : (startL last from_).length = last + 1 := by simp [startL]
theorem startL_wd (last from_ : Nat) : AllWd (startL last from_) := by
  intro v hv
  rcases List.mem_or_eq_of_mem_set hv with h | h
  · exact replicate_wd _ v h
  · rw [h]; exact wd_one
theorem wd_getD {l : List Int} (h : AllWd l) (i : Nat) : Wd (l.getD i 0) := by
  rw [List.getD_eq_getElem?_getD]
  cases e : l[i]? with
  | none => exact wd_zero
  | some v => exact h v (List.mem_of_getElem? e)
theorem rd_nat (l : List Int) (i : Nat) : rd l (i : Int) = l.getD i 0 := rfl

/-! the reference's waWalks -/
/-! the reference's waChances -/
theorem waChances_l1 (last : Nat) (hl0 : 0 < last) (hl : last < 1048576) (m : Int) (now : List Int) (hn : now.length = last + 1) (r : List Int) : ∀ (d n : Nat) (next : List Int), n + d = last + 1 → next.length = last + 1 →
    Ev (fun k => spec_waChances.l0 k (last : Int) (wrap64 (m - 1)) ((List.range' n d).foldl (put last 2 now) next)) r →
    Ev (fun k => spec_waChances.l1 k (last : Int) m next now ((last + 1 : Nat) : Int) (n : Int)) r := by
  intro d
  induction d with
  | zero =>
    intro n next hnd hx h
    refine Ev.step (fun k => ?_) h
    simp only [spec_waChances.l1]
    rw [if_neg (by omega)]
    rfl
  | succ d ih =>
    intro n next hnd hx h
    rw [List.range'_succ, List.foldl_cons] at h
    have h2 := ih (n + 1) (put last 2 now next n) (by omega) (by rw [put_length]; exact hx) h
    have ew : wrap64 ((n : Int) + 1) = ((n + 1 : Nat) : Int) := by rw [w64 (by omega) (by omega)]; omega
    have et2 : ((n + 1 : Nat) : Int).toNat = n + 1 := rfl
    by_cases c0 : n = 0
    · have hp : put last 2 now next n = addAt next 1 (wrap64 (now.getD n 0 * 2)) := by
        unfold put
        simp only
        rw [if_pos (Or.inl c0), if_neg (show ¬ 0 < n by omega), if_pos (show n < last by omega), c0]
      rw [hp] at h2
      refine Ev.step (fun k => ?_) h2
      simp only [spec_waChances.l1]
      rw [if_pos (by omega), if_pos (by omega), if_pos (by omega), rd_nat, ew, if_pos (by omega), if_pos (by omega), Int.mul_comm 2]
      rfl
    · have em : wrap64 ((n : Int) - 1) = ((n - 1 : Nat) : Int) := by rw [w64 (by omega) (by omega)]; omega
      have et : ((n - 1 : Nat) : Int).toNat = n - 1 := rfl
      by_cases c1 : n = last
      · have hp : put last 2 now next n = addAt next (n - 1) (wrap64 (now.getD n 0 * 2)) := by
          unfold put
          simp only
          rw [if_pos (Or.inr c1), if_pos (show 0 < n by omega), if_neg (show ¬ n < last by omega)]
        rw [hp] at h2
        refine Ev.step (fun k => ?_) h2
        simp only [spec_waChances.l1]
        rw [if_pos (by omega), if_pos (by omega), if_pos (by omega), rd_nat, ew, if_neg (by omega), if_pos (by omega), em, if_pos (by omega), if_pos (by omega), rd_nat, et, Int.mul_comm 2]
        rfl
      · have hp : put last 2 now next n = addAt (addAt next (n - 1) (now.getD n 0)) (n + 1) (now.getD n 0) := by
          unfold put
          simp only
          rw [if_neg (show ¬ (n = 0 ∨ n = last) by omega), if_pos (show 0 < n by omega), if_pos (show n < last by omega)]
        rw [hp] at h2
        refine Ev.step (fun k => ?_) h2
        simp only [spec_waChances.l1]
        rw [if_pos (by omega), if_pos (by omega), if_pos (by omega), rd_nat, ew, if_neg (by omega), if_neg (by omega), em, if_pos (by omega), if_pos (by omega), rd_nat, et, obind, if_pos (by omega), if_pos (by omega), rd_nat, et2]
        rfl
theorem waChances_l0 (last : Nat) (hl0 : 0 < last) (hl : last < 1048576) : ∀ (m : Nat) (now : List Int), m < 1000 → now.length = last + 1 →
    Ev (fun k => spec_waChances.l0 k (last : Int) (m : Int) now) (walksL last 2 m now) := by
  intro m
  induction m with
  | zero =>
    intro now _ hn
    refine Ev.step (f := fun _ => some _) (fun k => ?_) (Ev.now _)
    simp only [spec_waChances.l0]
    rw [if_neg (by omega)]
    rfl
  | succ m ih =>
    intro now hm hn
    have ew : wrap64 ((last : Int) + 1) = ((last + 1 : Nat) : Int) := by rw [w64 (by omega) (by omega)]; omega
    have et : ((last + 1 : Nat) : Int).toNat = last + 1 := rfl
    have h := ih (stepL last 2 now) (by omega) (stepL_length _ _ _)
    have em : wrap64 (((m + 1 : Nat) : Int) - 1) = (m : Int) := by rw [w64 (by omega) (by omega)]; omega
    have h2 := waChances_l1 last hl0 hl ((m + 1 : Nat) : Int) now hn (walksL last 2 (m + 1) now) (last + 1) 0 (List.replicate (last + 1) 0) (by omega) (by simp) (by rw [em]; exact h)
    refine Ev.step (fun k => ?_) h2
    simp only [spec_waChances.l0]
    rw [if_pos (by omega), ew, if_pos (by omega), et, if_pos (by omega), hn]
    rfl
theorem waChances (from_ last m : Nat) (hl0 : 0 < last) (hl : last < 1048576) (hf : from_ ≤ last) (hm : m < 1000) : Ev (fun k => spec_waChances.f k (from_ : Int) (last : Int) (m : Int)) (walksL last 2 m (startL last from_)) := by
  unfold spec_waChances.f
  have ew : wrap64 ((last : Int) + 1) = ((last + 1 : Nat) : Int) := by rw [w64 (by omega) (by omega)]; omega
  have et : ((last + 1 : Nat) : Int).toNat = last + 1 := rfl
  have ef : ((from_ : Nat) : Int).toNat = from_ := rfl
  rw [ew, et]
  refine Ev.congr (fun k => if_pos (by omega)) (Ev.congr (fun k => if_pos (by omega)) ?_)
  simp only [obind, List.length_replicate]
  refine Ev.congr (fun k => if_pos (by omega)) (Ev.congr (fun k => if_pos (by omega)) ?_)
  rw [ef]
  exact waChances_l0 last hl0 hl m _ hm (startL_length last from_)

/-! the program's spread -/
theorem spread_j3 (last : Nat) (hl : last < 1048576) (e M x24 : Int) (now : List Int) (r : List Int) (n : Nat) (hn : n ≤ last) (w : Int) (next : List Int) (hx : next.length = last + 1)
    (h : Ev (fun k => impl_spread.l1 k e (last : Int) (let a := if 0 < n then addAt next (n - 1) w else next; if n < last then addAt a (n + 1) w else a) M x24 now ((last + 1 : Nat) : Int) ((n + 1 : Nat) : Int)) r) :
    Ev (fun k => impl_spread.j3 k e (last : Int) next (n : Int) w M x24 now ((last + 1 : Nat) : Int) (n : Int)) r := by
  refine Ev.step (fun k => ?_) h
  have ew : wrap64 ((n : Int) + 1) = ((n + 1 : Nat) : Int) := by rw [w64 (by omega) (by omega)]; omega
  have et2 : ((n + 1 : Nat) : Int).toNat = n + 1 := rfl
  simp only [impl_spread.j3]
  rw [ew, et2]
  by_cases c1 : 0 < n
  · have em : wrap64 ((n : Int) - 1) = ((n - 1 : Nat) : Int) := by rw [w64 (by omega) (by omega)]; omega
    have et : ((n - 1 : Nat) : Int).toNat = n - 1 := rfl
    rw [if_pos (by omega), if_pos c1, em, if_pos (by omega), if_pos (by omega), rd_nat, obind, et]
    by_cases c2 : n < last
    · rw [if_pos (by omega), if_pos c2, if_pos (by omega), if_pos (by omega), rd_nat]
      rfl
    · rw [if_neg (by omega), if_neg c2]
      rfl
  · rw [if_neg (by omega), if_neg c1]
    by_cases c2 : n < last
    · rw [if_pos (by omega), if_pos c2, if_pos (by omega), if_pos (by omega), rd_nat]
      rfl
    · rw [if_neg (by omega), if_neg c2]
theorem spread_l1 (last : Nat) (hl : last < 1048576) (e M x24 : Int) (now : List Int) (hn : now.length = last + 1) (r : List Int) : ∀ (d n : Nat) (next : List Int), n + d = last + 1 → next.length = last + 1 →
    Ev (fun k => impl_spread.l0 k e (last : Int) ((List.range' n d).foldl (put last e now) next) M (wrap64 (x24 + 1))) r →
    Ev (fun k => impl_spread.l1 k e (last : Int) next M x24 now ((last + 1 : Nat) : Int) (n : Int)) r := by
  intro d
  induction d with
  | zero =>
    intro n next hnd hx h
    refine Ev.step (fun k => ?_) h
    simp only [impl_spread.l1]
    rw [if_neg (by omega)]
    rfl
  | succ d ih =>
    intro n next hnd hx h
    rw [List.range'_succ, List.foldl_cons] at h
    have h2 := ih (n + 1) (put last e now next n) (by omega) (by rw [put_length]; exact hx) h
    have j2 : ∀ b : Bool, b = decide (n = 0 ∨ n = last) → Ev (fun k => impl_spread.j2 k e (last : Int) next (n : Int) (now.getD n 0) M x24 now ((last + 1 : Nat) : Int) (n : Int) b) r := by
      intro b hb
      cases b with
      | true =>
        have hb' := of_decide_eq_true hb.symm
        refine Ev.step (fun k => by simp only [impl_spread.j2]; rw [if_pos trivial]) ?_
        refine spread_j3 last hl e M x24 now r n (by omega) _ next hx ?_
        unfold put at h2
        simp only [if_pos hb'] at h2
        exact h2
      | false =>
        have hb' := of_decide_eq_false hb.symm
        refine Ev.step (fun k => by simp only [impl_spread.j2]; rw [if_neg (by simp)]) ?_
        refine spread_j3 last hl e M x24 now r n (by omega) _ next hx ?_
        unfold put at h2
        simp only [if_neg hb'] at h2
        exact h2
    by_cases c0 : n = 0
    · refine Ev.step (fun k => ?_) (j2 true (by simp [c0]))
      simp only [impl_spread.l1]
      rw [if_pos (by omega), if_pos (by omega), if_pos (by omega), if_pos (by omega), rd_nat]
    · refine Ev.step (fun k => ?_) (j2 ((n : Int) == (last : Int)) (by rw [int_beq]; simp [c0]))
      simp only [impl_spread.l1]
      rw [if_pos (by omega), if_pos (by omega), if_pos (by omega), if_neg (by omega), rd_nat]
theorem spread_l0 (last : Nat) (hl : last < 1048576) (e : Int) (M : Nat) (hM : M < 1000) : ∀ (m j : Nat) (now : List Int), j + m = M → now.length = last + 1 →
    Ev (fun k => impl_spread.l0 k e (last : Int) now (M : Int) (j : Int)) (walksL last e m now) := by
  intro m
  induction m with
  | zero =>
    intro j now hj hn
    refine Ev.step (f := fun _ => some _) (fun k => ?_) (Ev.now _)
    simp only [impl_spread.l0]
    rw [if_neg (by omega)]
    rfl
  | succ m ih =>
    intro j now hj hn
    have ew : wrap64 ((last : Int) + 1) = ((last + 1 : Nat) : Int) := by rw [w64 (by omega) (by omega)]; omega
    have et : ((last + 1 : Nat) : Int).toNat = last + 1 := rfl
    have h := ih (j + 1) (stepL last e now) (by omega) (stepL_length _ _ _)
    have ej : wrap64 ((j : Int) + 1) = ((j + 1 : Nat) : Int) := by rw [w64 (by omega) (by omega)]; omega
    have h2 := spread_l1 last hl e (M : Int) (j : Int) now hn (walksL last e (m + 1) now) (last + 1) 0 (List.replicate (last + 1) 0) (by omega) (by simp) (by rw [ej]; exact h)
    refine Ev.step (fun k => ?_) h2
    simp only [impl_spread.l0]
    rw [if_pos (by omega), ew, if_pos (by omega), et, if_pos (by omega), hn]
    rfl
/-- The last number, as a number. -/
def topN (l : List UInt8) : Nat := 2 ^ l.length - 1
theorem topN_eq (l : List UInt8) : lastN l = (topN l : Int) := by
  have : 0 < 2 ^ l.length := Nat.two_pow_pos _
  unfold lastN topN
  omega
theorem topN_le {l : List UInt8} (h : l.length ≤ 20) : topN l < 1048576 ∧ num l ≤ topN l := by
  obtain ⟨h1, h2, h3⟩ := lastN_le h
  rw [topN_eq] at h1 h2 h3
  omega
theorem topN_pos {l : List UInt8} (h : 1 ≤ l.length) : 0 < topN l := by
  have : 2 ^ 1 ≤ 2 ^ l.length := Nat.pow_le_pow_right (by decide) h
  unfold topN
  omega
theorem spread (s : ByteArray) (hs : isSt s.data.toList = true) (M : Nat) (hM : M < 1000) (e : Int) :
    Ev (fun k => impl_spread.f k s (M : Int) e) (walksL (topN s.data.toList) e M (startL (topN s.data.toList) (num s.data.toList))) := by
  obtain ⟨h1, h2, h3⟩ := isSt_len hs
  obtain ⟨g1, g2⟩ := topN_le h2
  unfold impl_spread.f
  rw [last_eq s h2, topN_eq]
  have ew : wrap64 ((topN s.data.toList : Int) + 1) = ((topN s.data.toList + 1 : Nat) : Int) := by rw [w64 (by omega) (by omega)]; omega
  have et : ((topN s.data.toList + 1 : Nat) : Int).toNat = topN s.data.toList + 1 := rfl
  have ef : ((num s.data.toList : Nat) : Int).toNat = num s.data.toList := rfl
  rw [ew, et]
  refine Ev.congr (fun k => if_pos (by omega)) (Ev.congr (fun k => if_pos (by omega)) ?_)
  simp only [obind, List.length_replicate]
  refine Ev.bind (number s hs) ?_
  refine Ev.congr (fun k => if_pos (by omega)) (Ev.congr (fun k => if_pos (by omega)) ?_)
  exact spread_l0 _ g1 e M hM M 0 _ (by omega) (startL_length _ _)
def small (a b : ByteArray) (m : Int) : Bool := two a b && decide (a.data.toList.length ≤ 12) && decide (0 ≤ m ∧ m ≤ 40)
theorem waSmall (a b : ByteArray) (m : Int) : Ev (fun k => spec_waSmall.f k a b m) (small a b m) := by
  unfold spec_waSmall.f small
  refine Ev.bind (riTwo a b) ?_
  cases two a b with
  | false => exact Ev.now _
  | true =>
    refine Ev.congr (fun k => if_pos rfl) ?_
    rw [size_eq, l1In_eq]
    by_cases h : a.data.toList.length ≤ 12
    · refine Ev.congr (fun k => if_pos (by omega)) ?_
      simp only [obind, h, decide_true, Bool.true_and]
      exact Ev.now _
    · refine Ev.congr (fun k => if_neg (by omega)) ?_
      simp only [h, decide_false, Bool.and_false, Bool.false_and]
      exact Ev.now _
theorem isWalk (a : ByteArray) : impl_isWalk.f a = some (isSt a.data.toList && decide (a.data.toList.length ≤ 12)) := by
  unfold impl_isWalk.f
  rw [isState, obind, size_eq]
  cases isSt a.data.toList with
  | false => rfl
  | true =>
    rw [if_pos rfl, Bool.true_and]
    congr 1
    rw [Bool.eq_iff_iff]
    simp only [decide_eq_true_eq]
    omega
theorem small_and {a b : ByteArray} {m : Int} (h : small a b m = true) : two a b = true ∧ a.data.toList.length ≤ 12 ∧ 0 ≤ m ∧ m ≤ 40 := by
  simpa [small, and_assoc] using h
end Go.Proofs.YtkdngoffpoikpaaDoor.Lem
