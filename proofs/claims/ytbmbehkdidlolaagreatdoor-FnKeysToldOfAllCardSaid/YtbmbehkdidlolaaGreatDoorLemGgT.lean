/-
  Rings on a bar, in plain Lean: states as lists of signs, their numbers, the state with a number. No program in sight.
  Moves of rings, one or both, in plain Lean: which can be made, what stands behind them; by numbers: the neighbours of a number. No program in sight.
  The plain search, with no program in sight: a list of states in the order in which they are found, the fewest moves to each, and how many ways lead there.
  Lists of keys: what the printed functions come to.
  Keyed moves of a state, and the states by their numbers.
  The states of so many rings, in the order of texts and in the order of their numbers: what is summed over them is the same.
  A state with one ring turned, and its number, in both programs.
  The program's search by a function value, in plain words: the list, the fewest moves and the ways of the plain search.
  The searches by keys: the reference's and the program's find what the plain search finds.
  The states of so many rings in the order of texts: what the program makes, all of them, each once.
  How many parts the states fall into: both programs count the classes of 'reaches', one in the order of numbers, one in the order of texts.
  The program's rows of links and its search over them.
  The functions on keys as a whole: what each answers, told outright: the longest, the links, the line, turned keys, texts.
  Plain facts about graphs, with no program in sight: links are at least as many as the states that are no part's first; where each distance holds one state, the farthest is as far as there are states.
  The states by keys as a graph: links at least as many as states less parts; a line is as long as there are states; turned keys make the same graph.
  Turned keys make the same graph, told backwards; bars' states are a line, free keys' farthest states differ in every ring.
-/
import Derived.Test.YtbmbehkdidlolaaGreatDoorPTx1
import Derived.Test.YtbmbehkdidlolaaGreatDoorPTx2
import Derived.Test.YtbmbehkdidlolaaGreatDoorPTx3
import Derived.Test.YtbmbehkdidlolaaGreatDoorPTx4
import Derived.Test.YtbmbehkdidlolaaGreatDoorPTx5
import Derived.Test.YtbmbehkdidlolaaGreatDoorPTx6
import Derived.Test.YtbmbehkdidlolaaGreatDoorPTx7
import Derived.Test.YtbmbehkdidlolaaGreatDoorPTx8
import Derived.Test.YtbmbehkdidlolaaGreatDoorPTx9
import Derived.Test.YtbmbehkdidlolaaGreatDoorPTx10
import Derived.Test.YtbmbehkdidlolaaGreatDoorPTx11
import Derived.Test.YtbmbehkdidlolaaGreatDoorPTx12
import Derived.Test.YtbmbehkdidlolaaGreatDoorPTx13
import Derived.Test.YtbmbehkdidlolaaGreatDoorPTx14
import Derived.Test.YtbmbehkdidlolaaGreatDoorMapS
import Derived.Test.YtbmbehkdidlolaaGreatDoorMapB
import Derived.Lib.SlTrimSet
import Derived.Lib.LazyBuf
import Derived.Lib.Join
import Derived.Lib.SplitLaws
namespace Go.Proofs.YtbmbehkdidlolaaGreatDoor.Ring

def okc (c : UInt8) : Bool := c == 48 || c == 49
def isSt (l : List UInt8) : Bool := decide (1 ≤ l.length) && decide (l.length ≤ 20) && l.all okc

/-- Whether the rings from one on that are on are odd in number. -/
def dig : List UInt8 → Nat
  | [] => 0
  | c :: l => if c = 49 then 1 - dig l else dig l
def num : List UInt8 → Nat
  | [] => 0
  | c :: l => 2 * num l + dig (c :: l)
def bitsN : List UInt8 → Nat
  | [] => 0
  | c :: l => 2 * bitsN l + (c.toNat - 48)
def ones (l : List UInt8) : Nat := l.count 49

theorem dig_lt : ∀ l, dig l < 2
  | [] => by simp [dig]
  | c :: l => by have := dig_lt l; unfold dig; split <;> omega
theorem num_lt : ∀ l, num l < 2 ^ l.length
  | [] => by simp [num]
  | c :: l => by
    have := num_lt l
    have := dig_lt (c :: l)
    simp only [num, List.length_cons, Nat.pow_succ]
    omega
theorem okc_cases {c : UInt8} (h : okc c = true) : c = 48 ∨ c = 49 := by simpa [okc] using h
theorem bitsN_lt : ∀ l, l.all okc = true → bitsN l < 2 ^ l.length
  | [], _ => by simp [bitsN]
  | c :: l, h => by
    simp only [List.all_cons, Bool.and_eq_true] at h
    have := bitsN_lt l h.2
    simp only [bitsN, List.length_cons, Nat.pow_succ]
    rcases okc_cases h.1 with rfl | rfl
    · have e : (48 : UInt8).toNat - 48 = 0 := rfl
      omega
    · have e : (49 : UInt8).toNat - 48 = 1 := rfl
      omega

theorem testBit_two_mul_add (a b i : Nat) (hb : b < 2) : (2 * a + b).testBit (i + 1) = a.testBit i := by
  rw [Nat.testBit_succ]
  congr 1
  omega
theorem testBit_two_mul_add_zero (a b : Nat) (hb : b < 2) : (2 * a + b).testBit 0 = decide (b = 1) := by
  rw [Nat.testBit_zero]
  congr 1
  exact propext ⟨fun h => by omega, fun h => by omega⟩

theorem num_testBit : ∀ (l : List UInt8) (i : Nat), (num l).testBit i = decide (dig (l.drop i) = 1)
  | [], i => by simp [num, dig]
  | c :: l, 0 => by
    rw [num, testBit_two_mul_add_zero _ _ (dig_lt _)]
    rfl
  | c :: l, i + 1 => by
    rw [num, testBit_two_mul_add _ _ _ (dig_lt _), num_testBit l i]
    rfl
theorem bitsN_testBit : ∀ (l : List UInt8) (i : Nat), l.all okc = true → (bitsN l).testBit i = decide (l[i]? = some 49)
  | [], i, _ => by simp [bitsN]
  | c :: l, 0, h => by
    simp only [List.all_cons, Bool.and_eq_true] at h
    have hb : c.toNat - 48 < 2 := by rcases okc_cases h.1 with rfl | rfl <;> decide
    rw [bitsN, testBit_two_mul_add_zero _ _ hb]
    rcases okc_cases h.1 with rfl | rfl <;> simp
  | c :: l, i + 1, h => by
    simp only [List.all_cons, Bool.and_eq_true] at h
    have hb : c.toNat - 48 < 2 := by rcases okc_cases h.1 with rfl | rfl <;> decide
    rw [bitsN, testBit_two_mul_add _ _ _ hb, bitsN_testBit l i h.2]
    simp

theorem dig_drop (l : List UInt8) (i : Nat) : dig (l.drop i) = if l[i]? = some 49 then 1 - dig (l.drop (i + 1)) else dig (l.drop (i + 1)) := by
  by_cases h : i < l.length
  · rw [List.drop_eq_getElem_cons h, dig, List.getElem?_eq_getElem h]
    simp
  · rw [List.drop_eq_nil_of_le (by omega), List.drop_eq_nil_of_le (by omega), List.getElem?_eq_none (by omega)]
    simp
/-- The number of a state is its signs as digits, and the number of the rings behind the first one, summed without carry. -/
theorem num_cons (c : UInt8) (l : List UInt8) (h : (c :: l).all okc = true) : num (c :: l) = bitsN (c :: l) ^^^ num l := by
  apply Nat.eq_of_testBit_eq
  intro i
  rw [Nat.testBit_xor, num_testBit, bitsN_testBit _ _ h, num_testBit]
  have e : (c :: l).drop (i + 1) = l.drop i := rfl
  rw [dig_drop (c :: l) i, e]
  have := dig_lt (l.drop i)
  by_cases h1 : (c :: l)[i]? = some 49
  · rw [if_pos h1]
    by_cases h2 : dig (l.drop i) = 1
    · simp [h1, h2]
    · have : dig (l.drop i) = 0 := by omega
      simp [h1, this]
  · rw [if_neg h1]
    simp [h1]
theorem bitsN_zero : ∀ l, l.all okc = true → bitsN l = 0 → num l = 0 := by
  intro l
  induction l with
  | nil => intro _ _; rfl
  | cons c l ih =>
    intro h e
    have h' := h
    simp only [List.all_cons, Bool.and_eq_true] at h'
    have e2 : bitsN l = 0 := by simp only [bitsN] at e; omega
    rw [num_cons c l h, e, ih h'.2 e2]
    rfl
theorem bitsN_half (c : UInt8) (l : List UInt8) (h : okc c = true) : bitsN (c :: l) / 2 = bitsN l := by
  rcases okc_cases h with rfl | rfl <;> simp [bitsN] <;> omega

/-- The state of so many rings with a number. -/
def sign (n k : Nat) : UInt8 := if n / 2 ^ k % 2 = n / 2 ^ (k + 1) % 2 then 48 else 49
def stOf (r n : Nat) : List UInt8 := (List.range r).map (sign n)
theorem stOf_length (r n : Nat) : (stOf r n).length = r := by simp [stOf]
theorem sign_ok (n k : Nat) : okc (sign n k) = true := by unfold sign; split <;> rfl
theorem stOf_ok (r n : Nat) : (stOf r n).all okc = true := by simp [stOf, sign_ok]
theorem stOf_succ (r n : Nat) : stOf (r + 1) n = sign n 0 :: stOf r (n / 2) := by
  unfold stOf
  rw [List.range_succ_eq_map]
  simp only [List.map_cons, List.map_map]
  congr 1
  apply List.map_congr_left
  intro k _
  simp only [Function.comp_apply, sign, Nat.succ_eq_add_one]
  have e1 : n / 2 ^ (k + 1) = n / 2 / 2 ^ k := by rw [Nat.pow_succ, Nat.mul_comm (2 ^ k) 2, Nat.div_div_eq_div_mul]
  have e2 : n / 2 ^ (k + 1 + 1) = n / 2 / 2 ^ (k + 1) := by rw [Nat.pow_succ 2 (k + 1), Nat.mul_comm (2 ^ (k + 1)) 2, Nat.div_div_eq_div_mul]
  rw [e1, e2]
theorem dig_stOf : ∀ (r n : Nat), n < 2 ^ r → dig (stOf r n) = n % 2
  | 0, n, h => by simp [stOf, dig]; omega
  | r + 1, n, h => by
    rw [stOf_succ, dig, dig_stOf r (n / 2) (by rw [Nat.pow_succ] at h; omega)]
    have e : sign n 0 = if n % 2 = n / 2 % 2 then 48 else 49 := by simp [sign]
    rw [e]
    by_cases h1 : n % 2 = n / 2 % 2
    · rw [if_pos h1, if_neg (by decide)]; omega
    · rw [if_neg h1, if_pos rfl]; omega
theorem num_stOf : ∀ (r n : Nat), n < 2 ^ r → num (stOf r n) = n
  | 0, n, h => by simp [stOf, num]; omega
  | r + 1, n, h => by
    have h' : n / 2 < 2 ^ r := by rw [Nat.pow_succ] at h; omega
    have e := dig_stOf (r + 1) n h
    rw [stOf_succ] at e ⊢
    rw [num, num_stOf r (n / 2) h', e]
    omega
theorem num_half (c : UInt8) (l : List UInt8) : num (c :: l) / 2 = num l := by
  have := dig_lt (c :: l)
  rw [num]
  omega
theorem num_mod (c : UInt8) (l : List UInt8) : num (c :: l) % 2 = dig (c :: l) := by
  have := dig_lt (c :: l)
  rw [num]
  omega
theorem num_mod' (l : List UInt8) : num l % 2 = dig l := by
  cases l with
  | nil => rfl
  | cons c l => exact num_mod c l
theorem stOf_num : ∀ l : List UInt8, l.all okc = true → stOf l.length (num l) = l
  | [], _ => rfl
  | c :: l, h => by
    have h' := h
    simp only [List.all_cons, Bool.and_eq_true] at h'
    rw [List.length_cons, stOf_succ, num_half, stOf_num l h'.2]
    congr 1
    have e : sign (num (c :: l)) 0 = if num (c :: l) % 2 = num (c :: l) / 2 % 2 then 48 else 49 := by simp [sign]
    rw [e, num_half, num_mod, num_mod', dig]
    have := dig_lt l
    rcases okc_cases h'.1 with rfl | rfl
    · simp
    · rw [if_pos rfl, if_neg (by omega)]
theorem num_inj {a b : List UInt8} (ha : a.all okc = true) (hb : b.all okc = true) (hl : a.length = b.length) (h : num a = num b) : a = b := by
  rw [← stOf_num a ha, ← stOf_num b hb, hl, h]
end Go.Proofs.YtbmbehkdidlolaaGreatDoor.Ring
namespace Go.Proofs.YtbmbehkdidlolaaGreatDoor.Ring

def canR (l : List UInt8) (k : Nat) : Bool := k == 0 || (decide (k < l.length) && (l[k - 1]? == some 49) && (l.take (k - 1)).all (· == 48))
def flipC (c : UInt8) : UInt8 := if c = 49 then 48 else 49
def flipAt (l : List UInt8) (k : Nat) : List UInt8 := l.modify k flipC
def mvR (l : List UInt8) : List Nat := (List.range l.length).filter (canR l)
def mvP (l : List UInt8) : List Int := (if l[0]? = l[1]? then [-1] else []) ++ (mvR l).map (fun k : Nat => (k : Int))
def mkP (l : List UInt8) (k : Int) : List UInt8 := if k = -1 then flipAt (flipAt l 0) 1 else flipAt l k.toNat
/-- The numbers behind the moves of a number's state, in their order. -/
def nbr (r n : Nat) : List Nat := (mvP (stOf r n)).map (fun k => num (mkP (stOf r n) k))

theorem flipC_ok {c : UInt8} (h : okc c = true) : okc (flipC c) = true := by rcases okc_cases h with rfl | rfl <;> decide
theorem flipC_flipC {c : UInt8} (h : okc c = true) : flipC (flipC c) = c := by rcases okc_cases h with rfl | rfl <;> decide
theorem flipAt_length (l : List UInt8) (k : Nat) : (flipAt l k).length = l.length := by simp [flipAt]
theorem flipAt_get (l : List UInt8) (k j : Nat) : (flipAt l k)[j]? = if k = j then l[j]?.map flipC else l[j]? := by
  unfold flipAt
  rw [List.getElem?_modify]
  by_cases h : k = j
  · rw [if_pos h]; cases l[j]? <;> simp [h]
  · rw [if_neg h]; cases l[j]? <;> simp [h]
theorem all_get {l : List UInt8} : l.all okc = true ↔ ∀ (j : Nat) (c : UInt8), l[j]? = some c → okc c = true := by
  rw [List.all_eq_true]
  constructor
  · intro h j c hc
    exact h c (List.mem_of_getElem? hc)
  · intro h c hc
    obtain ⟨j, hj⟩ := List.mem_iff_getElem?.1 hc
    exact h j c hj
theorem flipAt_ok {l : List UInt8} (h : l.all okc = true) (k : Nat) : (flipAt l k).all okc = true := by
  rw [all_get] at h ⊢
  intro j c hc
  rw [flipAt_get] at hc
  by_cases e : k = j
  · rw [if_pos e] at hc
    cases hl : l[j]? with
    | none => rw [hl] at hc; cases hc
    | some b =>
      rw [hl] at hc
      obtain rfl := Option.some.inj hc
      exact flipC_ok (h j b hl)
  · rw [if_neg e] at hc
    exact h j c hc
theorem flipAt_flipAt {l : List UInt8} (h : l.all okc = true) (k : Nat) : flipAt (flipAt l k) k = l := by
  apply List.ext_getElem?
  intro j
  rw [flipAt_get, flipAt_get]
  by_cases e : k = j
  · rw [if_pos e, if_pos e]
    cases hl : l[j]? with
    | none => rfl
    | some b => simp [flipC_flipC (all_get.1 h j b hl)]
  · rw [if_neg e, if_neg e]
theorem flipAt_comm (l : List UInt8) (a b : Nat) : flipAt (flipAt l a) b = flipAt (flipAt l b) a := by
  apply List.ext_getElem?
  intro j
  rw [flipAt_get, flipAt_get, flipAt_get, flipAt_get]
  by_cases e : a = j <;> by_cases e2 : b = j <;> simp [e, e2]
theorem mkP_length (l : List UInt8) (k : Int) : (mkP l k).length = l.length := by
  unfold mkP
  split <;> simp [flipAt_length]
theorem mkP_ok {l : List UInt8} (h : l.all okc = true) (k : Int) : (mkP l k).all okc = true := by
  unfold mkP
  split
  · exact flipAt_ok (flipAt_ok h _) _
  · exact flipAt_ok h _
theorem nbr_lt {r n m : Nat} (h : m ∈ nbr r n) : m < 2 ^ r := by
  simp only [nbr, List.mem_map] at h
  obtain ⟨k, _, rfl⟩ := h
  have := num_lt (mkP (stOf r n) k)
  rw [mkP_length, stOf_length] at this
  exact this
theorem mkP_eq {r n : Nat} (k : Int) : mkP (stOf r n) k = stOf r (num (mkP (stOf r n) k)) := by
  have := stOf_num (mkP (stOf r n) k) (mkP_ok (stOf_ok r n) k)
  rw [mkP_length, stOf_length] at this
  exact this.symm
theorem mem_mvP {l : List UInt8} {k : Int} : k ∈ mvP l ↔ (k = -1 ∧ l[0]? = l[1]?) ∨ ∃ j : Nat, k = (j : Int) ∧ j < l.length ∧ canR l j = true := by
  unfold mvP mvR
  rw [List.mem_append]
  constructor
  · rintro (h | h)
    · left
      split at h
      · rename_i e; simp at h; exact ⟨h, e⟩
      · simp at h
    · right
      simp only [List.mem_map, List.mem_filter, List.mem_range] at h
      obtain ⟨j, ⟨h1, h2⟩, rfl⟩ := h
      exact ⟨j, rfl, h1, h2⟩
  · rintro (⟨rfl, e⟩ | ⟨j, rfl, h1, h2⟩)
    · left; rw [if_pos e]; simp
    · right
      simp only [List.mem_map, List.mem_filter, List.mem_range]
      exact ⟨j, ⟨h1, h2⟩, rfl⟩
/-- A ring's move can be taken back. -/
theorem canR_flip (l : List UInt8) (k : Nat) : canR (flipAt l k) k = canR l k := by
  unfold canR
  by_cases h0 : k = 0
  · simp [h0]
  · have e1 : (flipAt l k)[k - 1]? = l[k - 1]? := by rw [flipAt_get, if_neg (by omega)]
    have e2 : (flipAt l k).take (k - 1) = l.take (k - 1) := by
      apply List.ext_getElem?
      intro j
      rw [List.getElem?_take, List.getElem?_take]
      by_cases hj : j < k - 1
      · rw [if_pos hj, if_pos hj, flipAt_get, if_neg (by omega)]
      · rw [if_neg hj, if_neg hj]
    rw [e1, e2, flipAt_length]
theorem back_mkP {l : List UInt8} (h : l.all okc = true) {k : Int} (hk : k ∈ mvP l) : k ∈ mvP (mkP l k) ∧ mkP (mkP l k) k = l := by
  rw [mem_mvP] at hk ⊢
  rcases hk with ⟨rfl, e⟩ | ⟨j, rfl, h1, hc⟩
  · have e0 : mkP l (-1) = flipAt (flipAt l 0) 1 := rfl
    constructor
    · left
      refine ⟨rfl, ?_⟩
      rw [e0]
      simp only [flipAt_get]
      simp [e]
    · rw [e0]
      show flipAt (flipAt (flipAt (flipAt l 0) 1) 0) 1 = l
      rw [flipAt_comm l 0 1, flipAt_flipAt (flipAt_ok h _), flipAt_flipAt h]
  · have e0 : mkP l (j : Int) = flipAt l j := by unfold mkP; rw [if_neg (by omega)]; rfl
    have e1 : mkP (flipAt l j) (j : Int) = flipAt (flipAt l j) j := by unfold mkP; rw [if_neg (by omega)]; rfl
    constructor
    · right
      exact ⟨j, rfl, by rw [e0, flipAt_length]; exact h1, by rw [e0, canR_flip]; exact hc⟩
    · rw [e0, e1, flipAt_flipAt h]
end Go.Proofs.YtbmbehkdidlolaaGreatDoor.Ring
namespace Go.Proofs.YtbmbehkdidlolaaGreatDoor.Bfs
set_option linter.unusedSectionVars false
variable {α : Type} [DecidableEq α]

structure St (α : Type) where
  q : List α
  far : α → Option Nat
  ways : α → Int

def upd {β : Type} (f : α → β) (t : α) (v : β) : α → β := fun x => if x = t then v else f x

def d (st : St α) (u : α) : Nat := (st.far u).getD 0

def relax (add : Int → Int → Int) (u : α) (st : St α) (t : α) : St α :=
  let st1 : St α := if (st.far t).isNone then ⟨st.q ++ [t], upd st.far t (some (d st u + 1)), st.ways⟩ else st
  if st1.far t = some (d st1 u + 1) then ⟨st1.q, st1.far, upd st1.ways t (add (st1.ways t) (st1.ways u))⟩ else st1

def process (add : Int → Int → Int) (step : α → List α) (st : St α) (u : α) : St α := (step u).foldl (relax add u) st

def run (add : Int → Int → Int) (step : α → List α) : Nat → Nat → St α → St α
  | 0, _, st => st
  | k + 1, i, st => if h : i < st.q.length then run add step k (i + 1) (process add step st st.q[i]) else st

def init (s : α) : St α := ⟨[s], fun x => if x = s then some 0 else none, fun x => if x = s then 1 else 0⟩

inductive Path (step : α → List α) (s : α) : Nat → α → Prop
  | nil : Path step s 0 s
  | snoc {n : Nat} {b c : α} : Path step s n b → c ∈ step b → Path step s (n + 1) c

/-- What holds at the head of the outer loop's round i. `u`-free part: all but the processed vertices' edges. -/
structure Inv (step : α → List α) (s : α) (st : St α) (i : Nat) : Prop where
  nodup : st.q.Nodup
  le : i ≤ st.q.length
  pos : 0 < st.q.length
  head : st.q[0]? = some s
  iff : ∀ t, (st.far t).isSome = true ↔ t ∈ st.q
  zero : st.far s = some 0
  path : ∀ t n, st.far t = some n → Path step s n t
  mono : ∀ j k (hj : j < st.q.length) (hk : k < st.q.length), j ≤ k → d st st.q[j] ≤ d st st.q[k]
  near : ∀ (hi : i < st.q.length) (k : Nat) (hk : k < st.q.length), d st st.q[k] ≤ d st st.q[i] + 1
  done : ∀ j (hj : j < st.q.length), j < i → ∀ t ∈ step st.q[j], t ∈ st.q ∧ d st t ≤ d st st.q[j] + 1

/-- What holds inside the round of `u = q[i]`, behind a part `p` of its moves. -/
structure InvIn (step : α → List α) (s : α) (st : St α) (i : Nat) (u : α) (p : List α) : Prop where
  nodup : st.q.Nodup
  lt : i < st.q.length
  at_ : st.q[i]? = some u
  head : st.q[0]? = some s
  iff : ∀ t, (st.far t).isSome = true ↔ t ∈ st.q
  zero : st.far s = some 0
  path : ∀ t n, st.far t = some n → Path step s n t
  mono : ∀ j k (hj : j < st.q.length) (hk : k < st.q.length), j ≤ k → d st st.q[j] ≤ d st st.q[k]
  near : ∀ (k : Nat) (hk : k < st.q.length), d st st.q[k] ≤ d st u + 1
  done : ∀ j (hj : j < st.q.length), j < i → ∀ t ∈ step st.q[j], t ∈ st.q ∧ d st t ≤ d st st.q[j] + 1
  part : ∀ t ∈ p, t ∈ st.q ∧ d st t ≤ d st u + 1

theorem relax_q_far (add : Int → Int → Int) (u : α) (st : St α) (t : α) :
    (relax add u st t).q = (if (st.far t).isNone then st.q ++ [t] else st.q) ∧
    (relax add u st t).far = (if (st.far t).isNone then upd st.far t (some (d st u + 1)) else st.far) := by
  unfold relax
  by_cases h : (st.far t).isNone <;> simp only [h, if_true, if_false, Bool.false_eq_true] <;> split <;> exact ⟨rfl, rfl⟩

theorem d_upd_ne {st : St α} {t x : α} {v : Option Nat} {q : List α} {w : α → Int} (h : x ≠ t) : d ⟨q, upd st.far t v, w⟩ x = d st x := by
  simp [d, upd, h]

theorem InvIn.relaxed {step : α → List α} {s : α} {st : St α} {i : Nat} {u : α} {p : List α} (add : Int → Int → Int) {t : α}
    (I : InvIn step s st i u p) (ht : t ∈ step u) : InvIn step s (relax add u st t) i u (p ++ [t]) := by
  obtain ⟨hq, hf⟩ := relax_q_far add u st t
  have hu : u ∈ st.q := List.mem_of_getElem? I.at_
  have huf := (I.iff u).2 hu
  generalize relax add u st t = st' at hq hf
  have hd : ∀ x, x ≠ t ∨ (st.far t).isNone = false → d st' x = d st x := by
    intro x hx
    by_cases h : (st.far t).isNone
    · rw [if_pos h] at hf
      rcases hx with hx | hx
      · simp [d, hf, upd, hx]
      · rw [h] at hx; cases hx
    · rw [if_neg h] at hf
      simp [d, hf]
  by_cases h : (st.far t).isNone
  · have hnt : t ∉ st.q := fun hm => by have := (I.iff t).2 hm; rw [Option.isSome_iff_ne_none] at this; exact this (Option.isNone_iff_eq_none.1 h)
    rw [if_pos h] at hf hq
    have hut : u ≠ t := fun e => hnt (e ▸ hu)
    have hdu : d st' u = d st u := hd u (.inl hut)
    have hdt : d st' t = d st u + 1 := by simp [d, hf, upd]
    have hdq : ∀ x ∈ st.q, d st' x = d st x := fun x hx => hd x (.inl fun e => hnt (e ▸ hx))
    have hlen : st'.q.length = st.q.length + 1 := by rw [hq]; simp
    have hold : ∀ j (hj : j < st.q.length) (hj' : j < st'.q.length), st'.q[j] = st.q[j] := by
      intro j hj hj'; simp only [hq]; rw [List.getElem_append_left hj]
    have hnew : ∀ j (hj' : j < st'.q.length), ¬ j < st.q.length → st'.q[j] = t := by
      intro j hj' hj
      have : j = st.q.length := by omega
      subst this
      simp [hq]
    have hfs : st.far s ≠ none := by rw [I.zero]; simp
    have hts : t ≠ s := fun e => by rw [e, I.zero] at h; simp at h
    refine ⟨?_, ?_, ?_, ?_, ?_, ?_, ?_, ?_, ?_, ?_, ?_⟩
    · rw [hq]; rw [List.nodup_append]; exact ⟨I.nodup, by simp, by intro a ha b hb; simp at hb; subst hb; exact fun e => hnt (e ▸ ha)⟩
    · have := I.lt; omega
    · rw [hq, List.getElem?_append_left I.lt]; exact I.at_
    · rw [hq, List.getElem?_append_left (by have := I.lt; omega)]; exact I.head
    · intro x
      rw [hf, hq]
      by_cases hx : x = t
      · simp [upd, hx]
      · simp [upd, hx, I.iff x]
    · rw [hf]; simp [upd, Ne.symm hts, I.zero]
    · intro x n hx
      rw [hf] at hx
      by_cases he : x = t
      · subst he
        simp [upd] at hx
        subst hx
        obtain ⟨m, hm⟩ := Option.isSome_iff_exists.1 huf
        have : d st u = m := by simp [d, hm]
        rw [this]
        exact .snoc (I.path u m hm) ht
      · simp [upd, he] at hx; exact I.path x n hx
    · intro j k hj hk hjk
      by_cases hk' : k < st.q.length
      · have hj' : j < st.q.length := by omega
        rw [hold j hj' hj, hold k hk' hk, hdq _ (List.getElem_mem _), hdq _ (List.getElem_mem _)]
        exact I.mono j k hj' hk' hjk
      · rw [hnew k hk hk', hdt]
        by_cases hj' : j < st.q.length
        · rw [hold j hj' hj, hdq _ (List.getElem_mem _)]; exact I.near j hj'
        · rw [hnew j hj hj', hdt]; omega
    · intro k hk
      rw [hdu]
      by_cases hk' : k < st.q.length
      · rw [hold k hk' hk, hdq _ (List.getElem_mem _)]; exact I.near k hk'
      · rw [hnew k hk hk', hdt]; omega
    · intro j hj hji x hx
      have hj' : j < st.q.length := by have := I.lt; omega
      rw [hold j hj' hj] at hx ⊢
      obtain ⟨h1, h2⟩ := I.done j hj' hji x hx
      refine ⟨by rw [hq]; simp [h1], ?_⟩
      rw [hdq _ h1, hdq _ (List.getElem_mem _)]; exact h2
    · intro x hx
      rw [hdu]
      simp at hx
      rcases hx with hx | hx
      · obtain ⟨h1, h2⟩ := I.part x hx
        exact ⟨by rw [hq]; simp [h1], by rw [hdq _ h1]; exact h2⟩
      · subst hx; exact ⟨by rw [hq]; simp, by rw [hdt]; omega⟩
  · have hdall : ∀ x, d st' x = d st x := fun x => hd x (.inr (Bool.eq_false_iff.2 h))
    rw [if_neg h] at hf hq
    have htq : t ∈ st.q := (I.iff t).1 (Option.isSome_iff_ne_none.2 fun e => h (by rw [e]; rfl))
    obtain ⟨q', f', w'⟩ := st'
    simp only at hq hf
    subst hq hf
    refine ⟨I.nodup, I.lt, I.at_, I.head, I.iff, I.zero, I.path, ?_, ?_, ?_, ?_⟩
    · intro j k hj hk hjk; rw [hdall, hdall]; exact I.mono j k hj hk hjk
    · intro k hk; rw [hdall, hdall]; exact I.near k hk
    · intro j hj hji x hx; rw [hdall, hdall]; exact I.done j hj hji x hx
    · intro x hx
      rw [hdall, hdall]
      simp at hx
      rcases hx with hx | hx
      · exact I.part x hx
      · subst hx
        obtain ⟨k, hk, e⟩ := List.getElem_of_mem htq
        exact ⟨htq, by rw [← e]; exact I.near k hk⟩

theorem InvIn.foldl {step : α → List α} {s : α} {i : Nat} {u : α} (add : Int → Int → Int) (l : List α) : ∀ (st : St α) (p : List α),
    InvIn step s st i u p → (∀ t ∈ l, t ∈ step u) → InvIn step s (l.foldl (relax add u) st) i u (p ++ l) := by
  induction l with
  | nil => intro st p I _; simpa using I
  | cons t l ih =>
    intro st p I h
    have := ih _ _ (I.relaxed add (h t (by simp))) (fun x hx => h x (by simp [hx]))
    simpa using this

theorem Inv.start (step : α → List α) (s : α) : Inv step s (init s) 0 := by
  refine ⟨by simp [init], by simp [init], by simp [init], by simp [init], ?_, by simp [init], ?_, ?_, ?_, ?_⟩
  · intro t; by_cases h : t = s <;> simp [init, h]
  · intro t n h
    by_cases e : t = s
    · subst e; simp [init] at h; subst h; exact .nil
    · simp [init, e] at h
  · intro j k hj hk hjk; simp [init] at hj hk; simp [init, hj, hk]
  · intro hi k hk; simp [init] at hk; simp [init, hk]
  · intro j hj h; omega

theorem Inv.enter {step : α → List α} {s : α} {st : St α} {i : Nat} (I : Inv step s st i) (h : i < st.q.length) : InvIn step s st i st.q[i] [] :=
  ⟨I.nodup, h, List.getElem?_eq_getElem h, I.head, I.iff, I.zero, I.path, I.mono, I.near h, I.done, by simp⟩

theorem InvIn.leave {step : α → List α} {s : α} {st : St α} {i : Nat} {u : α} (I : InvIn step s st i u (step u)) : Inv step s st (i + 1) := by
  have hlt := I.lt
  have hu : st.q[i] = u := by have := I.at_; rw [List.getElem?_eq_getElem hlt] at this; exact Option.some.inj this
  refine ⟨I.nodup, by omega, by omega, I.head, I.iff, I.zero, I.path, I.mono, ?_, ?_⟩
  · intro hi k hk
    have h1 := I.near k hk
    have h2 := I.mono i (i + 1) hlt hi (by omega)
    rw [hu] at h2
    omega
  · intro j hj hji t ht
    by_cases h : j = i
    · subst h; rw [hu] at ht ⊢; exact I.part t ht
    · exact I.done j hj (by omega) t ht

theorem Inv.process {step : α → List α} {s : α} {st : St α} {i : Nat} (add : Int → Int → Int) (I : Inv step s st i) (h : i < st.q.length) :
    Inv step s (process add step st st.q[i]) (i + 1) := by
  have := (I.enter h).foldl add (step st.q[i]) st [] (fun t ht => ht)
  rw [List.nil_append] at this
  exact InvIn.leave this

/-- Behind the search: what the numbers mean. -/
structure Final (step : α → List α) (s : α) (st : St α) : Prop where
  nodup : st.q.Nodup
  iff : ∀ t, (st.far t).isSome = true ↔ t ∈ st.q
  path : ∀ t n, st.far t = some n → Path step s n t
  least : ∀ t n, Path step s n t → ∃ m, st.far t = some m ∧ m ≤ n

theorem Inv.final {step : α → List α} {s : α} {st : St α} (I : Inv step s st st.q.length) : Final step s st := by
  refine ⟨I.nodup, I.iff, I.path, ?_⟩
  intro t n h
  induction h with
  | nil => exact ⟨0, I.zero, Nat.le_refl _⟩
  | @snoc n b c _ hc ih =>
    obtain ⟨m, hm, hle⟩ := ih
    have hb : b ∈ st.q := (I.iff b).1 (by rw [hm]; rfl)
    obtain ⟨j, hj, e⟩ := List.getElem_of_mem hb
    obtain ⟨h1, h2⟩ := I.done j hj hj c (by rw [e]; exact hc)
    rw [e] at h2
    obtain ⟨k, hk⟩ := Option.isSome_iff_exists.1 ((I.iff c).2 h1)
    refine ⟨k, hk, ?_⟩
    have e1 : d st c = k := by simp [d, hk]
    have e2 : d st b = m := by simp [d, hm]
    omega

theorem relax_new {add : Int → Int → Int} {u t : α} {st : St α} (h : st.far t = none) (hu : u ≠ t) :
    relax add u st t = ⟨st.q ++ [t], upd st.far t (some (d st u + 1)), upd st.ways t (add (st.ways t) (st.ways u))⟩ := by
  have e1 : (st.far t).isNone = true := by rw [h]; rfl
  unfold relax
  simp only [e1, if_true]
  have e2 : d (⟨st.q ++ [t], upd st.far t (some (d st u + 1)), st.ways⟩ : St α) u = d st u := d_upd_ne hu
  rw [e2, if_pos (by simp [upd])]
theorem relax_same {add : Int → Int → Int} {u t : α} {st : St α} (h : st.far t = some (d st u + 1)) :
    relax add u st t = ⟨st.q, st.far, upd st.ways t (add (st.ways t) (st.ways u))⟩ := by
  have e1 : (st.far t).isNone = false := by rw [h]; rfl
  unfold relax
  simp only [e1, Bool.false_eq_true, if_false]
  rw [if_pos h]
theorem relax_not {add : Int → Int → Int} {u t : α} {st : St α} (h : st.far t ≠ none) (h2 : st.far t ≠ some (d st u + 1)) :
    relax add u st t = st := by
  have e1 : (st.far t).isNone = false := by
    cases e : st.far t with
    | none => exact absurd e h
    | some _ => rfl
  unfold relax
  simp only [e1, Bool.false_eq_true, if_false]
  rw [if_neg h2]

theorem nodup_bound : ∀ (N : Nat) (l : List Nat), l.Nodup → (∀ x ∈ l, x < N) → l.length ≤ N
  | 0, l, _, h => by
    cases l with
    | nil => simp
    | cons a l => exact absurd (h a (by simp)) (Nat.not_lt_zero a)
  | N + 1, l, hn, h => by
    by_cases hm : N ∈ l
    · have h1 := nodup_bound N (l.erase N) (hn.erase N) (fun x hx => by
        have h2 := (List.Nodup.mem_erase_iff hn).1 hx
        have h3 := h x h2.2
        have := h2.1
        omega)
      rw [List.length_erase_of_mem hm] at h1
      omega
    · have := nodup_bound N l hn (fun x hx => by
        have h3 := h x hx
        have : x ≠ N := fun e => hm (e ▸ hx)
        omega)
      omega

/-- The numbers are small, the queue's vertices are below a bound. -/
structure Good (N : Nat) (st : St Nat) : Prop where
  bnd : ∀ t n, st.far t = some n → n < st.q.length
  rng : ∀ x ∈ st.q, x < N
theorem Good.len {N : Nat} {st : St Nat} (G : Good N st) (hn : st.q.Nodup) : st.q.length ≤ N := nodup_bound N st.q hn G.rng
theorem Good.d {N : Nat} {st : St Nat} (G : Good N st) {u : Nat} (hu : (st.far u).isSome = true) : d st u < st.q.length := by
  obtain ⟨m, hm⟩ := Option.isSome_iff_exists.1 hu
  have := G.bnd u m hm
  simp [Bfs.d, hm]
  exact this
theorem Good.relaxed {N : Nat} {st : St Nat} (G : Good N st) (add : Int → Int → Int) {u t : Nat} (hu : (st.far u).isSome = true) (ht : t < N) : Good N (relax add u st t) := by
  have hd := G.d hu
  obtain ⟨hq, hf⟩ := relax_q_far add u st t
  constructor
  · intro x n hx
    rw [hf] at hx
    rw [hq]
    by_cases h : (st.far t).isNone = true
    · rw [if_pos h] at hx ⊢
      rw [List.length_append]
      simp only [List.length_cons, List.length_nil]
      by_cases e : x = t
      · simp only [upd, e, if_true, Option.some.injEq] at hx
        omega
      · simp only [upd, e, if_false] at hx
        have := G.bnd x n hx
        omega
    · rw [if_neg h] at hx ⊢
      exact G.bnd x n hx
  · intro x hx
    rw [hq] at hx
    split at hx
    · rw [List.mem_append] at hx
      rcases hx with hx | hx
      · exact G.rng x hx
      · simp at hx; omega
    · exact G.rng x hx
theorem Good.start (N s : Nat) (hs : s < N) : Good N (init s) := by
  constructor
  · intro t n h
    by_cases e : t = s
    · simp [init, e] at h; simp [init, ← h]
    · simp [init, e] at h
  · intro x hx
    simp [init] at hx
    omega
end Go.Proofs.YtbmbehkdidlolaaGreatDoor.Bfs
namespace Go.Proofs.YtbmbehkdidlolaaGreatDoor.Lem
open Go.RowKit Go.Proofs.YtbmbehkdidlolaaGreatDoor.PT Go.Proofs.YtbmbehkdidlolaaGreatDoorW.PrintWords Go.Proofs.YtbmbehkdidlolaaGreatDoorW.PrintLast Go.Proofs.YtbmbehkdidlolaaGreatDoorW.PrintMore Go.Proofs.YtbmbehkdidlolaaGreatDoor.Ring
set_option linter.unusedVariables false
set_option linter.unusedSimpArgs false

abbrev Stt := List UInt8
theorem in_eq (a b c : Int) : impl_in.f a b c = some (decide (b ≤ a ∧ a ≤ c)) := by
  unfold impl_in.f
  by_cases h1 : a ≥ b
  · rw [if_pos h1]
    have h1' : b ≤ a := h1
    by_cases h2 : a ≤ c
    · simp [h1', h2]
    · simp [h2]
  · rw [if_neg h1]
    have h1' : ¬ b ≤ a := h1
    simp [h1']
theorem l1In_eq (a b c : Int) : spec_l1In.f a b c = some (decide (b ≤ a ∧ a ≤ c)) := in_eq a b c


theorem obind {α β : Type} (a : α) (f : α → Option β) : (some a).bind f = f a := by rw [Option.bind_some]
theorem w64 {n : Int} (h1 : -9223372036854775808 ≤ n) (h2 : n ≤ 9223372036854775807) : wrap64 n = n := by unfold wrap64; omega
theorem size_eq (s : ByteArray) : s.size = s.data.toList.length := by rw [Array.length_toList]; rfl
theorem bt_drop {s : ByteArray} {i : Nat} {c : UInt8} {m : List UInt8} (h : s.data.toList.drop i = c :: m) : i < s.size ∧ bt s (i : Int) = (c.toNat : Int) ∧ s.data.toList.drop (i + 1) = m := by
  have hi : i < s.data.toList.length := by
    apply Nat.lt_of_not_le
    intro hle
    rw [List.drop_eq_nil_of_le hle] at h
    cases h
  rw [List.drop_eq_getElem_cons hi] at h
  injection h with h1 h2
  have hs : i < s.size := by rw [size_eq]; exact hi
  refine ⟨hs, ?_, h2⟩
  unfold bt
  rw [dif_pos (show (i : Int).toNat < s.size by simpa using hs)]
  rw [← h1]
  rfl
theorem bt_get {s : ByteArray} {i : Nat} (hi : i < s.data.toList.length) : bt s (i : Int) = (s.data.toList[i].toNat : Int) :=
  (bt_drop (List.drop_eq_getElem_cons hi)).2.1
theorem toNat_eq {c : UInt8} {n : Nat} (hn : n < 256) : ((c.toNat : Int) = (n : Int)) ↔ c = UInt8.ofNat n := by
  constructor
  · intro h
    have h' : c.toNat = n := by omega
    rw [← h']
    simp
  · intro h
    subst h
    simp
    omega
theorem is48 (c : UInt8) : ((c.toNat : Int) = 48) ↔ c = 48 := toNat_eq (n := 48) (by decide)
theorem is49 (c : UInt8) : ((c.toNat : Int) = 49) ↔ c = 49 := toNat_eq (n := 49) (by decide)

theorem dropWhile_nil {p : UInt8 → Bool} : ∀ {l : List UInt8}, l.dropWhile p = [] ↔ l.all p = true
  | [] => by simp
  | c :: l => by
    rw [List.dropWhile_cons]
    by_cases h : p c = true
    · rw [if_pos h, dropWhile_nil]; simp [h]
    · rw [if_neg h]; simp [h]
theorem dropWhile_head {p : UInt8 → Bool} {l m : List UInt8} {c : UInt8} (h : l.dropWhile p = c :: m) : p c = false := by
  induction l with
  | nil => simp at h
  | cons d l ih =>
    rw [List.dropWhile_cons] at h
    by_cases hd : p d = true
    · rw [if_pos hd] at h; exact ih h
    · rw [if_neg hd] at h
      injection h with h1 _
      subst h1
      exact Bool.eq_false_iff.2 hd
theorem trimS_nil (l cs : List UInt8) : Lib.trimS l cs = [] ↔ l.all (cs.contains ·) = true := by
  unfold Lib.trimS Lib.trimLeftS Lib.trimRightS
  rw [dropWhile_nil]
  constructor
  · intro h
    cases e : l.reverse.dropWhile (cs.contains ·) with
    | nil => rw [dropWhile_nil] at e; simpa using e
    | cons c m =>
      have := dropWhile_head e
      rw [e] at h
      simp only [List.reverse_cons, List.all_append, List.all_cons, List.all_nil, Bool.and_true, Bool.and_eq_true] at h
      rw [h.2] at this
      cases this
  · intro h
    have : l.reverse.dropWhile (cs.contains ·) = [] := by rw [dropWhile_nil]; simpa using h
    rw [this]
    rfl
theorem trim_eq (s : ByteArray) (cs : List UInt8) (hs : s.size ≤ 9223372036854775807) (hc : cs.length < 4294967281) (ha : cs.all (fun b => decide (b.toNat < 128)) = true) :
    strings_Trim.f s ⟨cs.toArray⟩ = some ⟨(Lib.trimS s.data.toList cs).toArray⟩ := by
  unfold strings_Trim.f
  rw [if_pos ⟨hs, by rw [size_eq]; simpa using hc, by simpa using ha⟩]
theorem toList_nil (l : List UInt8) : ((⟨l.toArray⟩ : ByteArray).toList == ([] : List UInt8)) = decide (l = []) := by
  rw [Lib.toList_data]
  cases l <;> simp
theorem append_one (l : List UInt8) (c : UInt8) : ((⟨l.toArray⟩ : ByteArray) ++ (⟨#[c]⟩ : ByteArray)) = ⟨(l ++ [c]).toArray⟩ := by
  apply ByteArray.ext
  simp
theorem succ64 {n : Nat} (h : n < 4611686018427387904) : wrap64 ((n : Int) + 1) = ((n + 1 : Nat) : Int) := by rw [w64 (by omega) (by omega)]; omega
theorem bt_opt {s : ByteArray} {i : Nat} {c : UInt8} (h : s.data.toList[i]? = some c) : bt s (i : Int) = (c.toNat : Int) := by
  obtain ⟨hi, e⟩ := List.getElem?_eq_some_iff.1 h
  rw [bt_get hi, e]
theorem ev_num {α β : Type} {f : Nat → Option β} {t : β} {g h : Nat → Option α} {r : α} (hn : Ev f t) (hh : Ev h r) (he : ∀ k, f k = some t → g (k + 1) = h k) : Ev g r := by
  obtain ⟨K1, h1⟩ := hn
  obtain ⟨K2, h2⟩ := hh
  refine ⟨max K1 K2 + 1, fun n hn => ?_⟩
  obtain ⟨k, rfl⟩ : ∃ k, n = k + 1 := ⟨n - 1, by omega⟩
  rw [he k (h1 k (by omega))]
  exact h2 k (by omega)
theorem rdS_get {l : List ByteArray} {i : Nat} (h : i < l.length) : rdOf ByteArray.empty l (i : Int) = l[i] := by
  show l.getD i _ = l[i]
  simp [List.getD, h]
theorem ev_all (g : Nat → Int → Option Bool) (p : Nat → Bool) (n : Nat)
    (h1 : ∀ i, i < n → p i = true → ∀ r, Ev (fun k => g k ((i + 1 : Nat) : Int)) r → Ev (fun k => g k (i : Int)) r)
    (h0 : ∀ i, i < n → p i = false → Ev (fun k => g k (i : Int)) false) (he : Ev (fun k => g k (n : Int)) true) :
    ∀ d i, i + d = n → Ev (fun k => g k (i : Int)) ((List.range' i d).all p) := by
  intro d
  induction d with
  | zero =>
    intro i hi
    have : i = n := by omega
    subst this
    exact he
  | succ d ih =>
    intro i hi
    rw [List.range'_succ, List.all_cons]
    cases hp : p i with
    | true => exact h1 i (by omega) hp _ (by rw [Bool.true_and]; exact ih (i + 1) (by omega))
    | false => rw [Bool.false_and]; exact h0 i (by omega) hp
theorem all_range {α : Type} (l : List α) (q : α → Bool) (p : Nat → Bool) (h : ∀ i (hi : i < l.length), p i = q l[i]) : (List.range' 0 l.length).all p = l.all q := by
  rw [Bool.eq_iff_iff, List.all_eq_true, List.all_eq_true]
  constructor
  · intro g x hx
    obtain ⟨i, hi, rfl⟩ := List.getElem_of_mem hx
    rw [← h i hi]
    exact g i (by simp [List.mem_range'_1, hi])
  · intro g i hi
    simp [List.mem_range'_1] at hi
    rw [h i hi]
    exact g _ (List.getElem_mem hi)

/-! ### Searching by a function value -/
def tx (l : List UInt8) : ByteArray := ⟨l.toArray⟩
theorem tx_data (l : List UInt8) : (tx l).data.toList = l := by simp [tx]
theorem tx_size (l : List UInt8) : (tx l).size = l.length := by rw [size_eq, tx_data]
theorem ba_ext {a b : ByteArray} (h : a.data.toList = b.data.toList) : a = b := by
  apply ByteArray.ext
  exact Array.toList_inj.1 h
theorem tx_self (s : ByteArray) : tx s.data.toList = s := ba_ext (tx_data _)

def okk (c : UInt8) : Bool := c == 48 || (c == 49 || c == 63)
def keyOk (n k : Nat) (key : Stt) : Bool := decide (key.length = n) && ((key[k]? == some 63) && key.all okk)
def keysOk (ks : List Stt) : Bool := decide (1 ≤ ks.length ∧ ks.length ≤ 10) && (List.range' 0 ks.length).all (fun k => keyOk ks.length k (ks.getD k []))
theorem bt_tx {l : Stt} {i : Nat} (h : i < l.length) : bt (tx l) (i : Int) = (l[i].toNat : Int) := bt_opt (by rw [tx_data]; exact List.getElem?_eq_getElem h)
theorem is63 (c : UInt8) : ((c.toNat : Int) = 63) ↔ c = 63 := toNat_eq (n := 63) (by decide)
theorem okk_or (c : UInt8) : okk c = true ↔ (c = 63 ∨ c = 48 ∨ c = 49) := by
  unfold okk
  simp
  constructor
  · rintro (h | h | h) <;> simp [h]
  · rintro (h | h | h) <;> simp [h]
theorem rdK {ks : List Stt} {i : Nat} (h : i < ks.length) : rdOf ByteArray.empty (ks.map tx) (i : Int) = tx ks[i] := by
  rw [rdS_get (by rw [List.length_map]; exact h), List.getElem_map]
theorem getD_get {ks : List Stt} {i : Nat} (h : i < ks.length) : ks.getD i [] = ks[i] := by simp [List.getD, h]
theorem keGood_l1 (ks : List Stt) (i : Nat) (key : Stt) (hk : key.length < 4611686018427387904) (hi : i < 4611686018427387904) (R : Bool) (h : Ev (fun k => spec_keGood.l0 k (ks.map tx) (ks.map tx) (ks.length : Int) ((i + 1 : Nat) : Int)) R) : ∀ d j, j + d = key.length →
    Ev (fun k => spec_keGood.l1 k (ks.map tx) (tx key) (j : Int) (ks.map tx) (ks.length : Int) (i : Int)) ((key.drop j).all okk && R) := by
  intro d
  induction d with
  | zero =>
    intro j hj
    rw [List.drop_eq_nil_of_le (by omega), List.all_nil, Bool.true_and]
    refine Ev.step (fun k => ?_) h
    simp only [spec_keGood.l1]
    rw [tx_size, if_neg (fun h => by have := Int.ofNat_lt.1 h; omega), succ64 hi]
  | succ d ih =>
    intro j hj
    have hjl : j < key.length := by omega
    rw [List.drop_eq_getElem_cons hjl, List.all_cons]
    have hb := bt_tx hjl
    have e0 : ∀ k, spec_keGood.l1 (k + 1) (ks.map tx) (tx key) (j : Int) (ks.map tx) (ks.length : Int) (i : Int) = (if key[j] = 63 then spec_keGood.l1 k (ks.map tx) (tx key) ((j + 1 : Nat) : Int) (ks.map tx) (ks.length : Int) (i : Int) else (if key[j] = 48 then spec_keGood.l1 k (ks.map tx) (tx key) ((j + 1 : Nat) : Int) (ks.map tx) (ks.length : Int) (i : Int) else (if key[j] = 49 then spec_keGood.l1 k (ks.map tx) (tx key) ((j + 1 : Nat) : Int) (ks.map tx) (ks.length : Int) (i : Int) else some false))) := by
      intro k
      simp only [spec_keGood.l1]
      rw [if_pos (show (j : Int) < ((tx key).size : Int) by rw [tx_size]; exact Int.ofNat_lt.2 hjl), if_pos (Int.natCast_nonneg _), hb, succ64 (by omega)]
      simp only [is63, is48, is49]
    by_cases c1 : key[j] = 63
    · rw [(okk_or key[j]).2 (Or.inl c1), Bool.true_and]
      exact Ev.step (fun k => by rw [e0, if_pos c1]) (ih (j + 1) (by omega))
    · by_cases c2 : key[j] = 48
      · rw [(okk_or key[j]).2 (Or.inr (Or.inl c2)), Bool.true_and]
        exact Ev.step (fun k => by rw [e0, if_neg c1, if_pos c2]) (ih (j + 1) (by omega))
      · by_cases c3 : key[j] = 49
        · rw [(okk_or key[j]).2 (Or.inr (Or.inr c3)), Bool.true_and]
          exact Ev.step (fun k => by rw [e0, if_neg c1, if_neg c2, if_pos c3]) (ih (j + 1) (by omega))
        · have : okk key[j] = false := Bool.eq_false_iff.2 (fun h => by rcases (okk_or _).1 h with h | h | h <;> contradiction)
          rw [this, Bool.false_and, Bool.false_and]
          exact Ev.step (f := fun _ => some false) (fun k => by rw [e0, if_neg c1, if_neg c2, if_neg c3]) (Ev.now _)
theorem keGood_l0 (ks : List Stt) (hn : ks.length < 4611686018427387904) : ∀ d i, i + d = ks.length → Ev (fun k => spec_keGood.l0 k (ks.map tx) (ks.map tx) (ks.length : Int) (i : Int)) ((List.range' i d).all (fun k => keyOk ks.length k (ks.getD k []))) := by
  intro d
  induction d with
  | zero =>
    intro i hi
    refine Ev.step (f := fun _ => some true) (fun k => ?_) (Ev.now _)
    simp only [spec_keGood.l0]
    rw [if_neg (fun h => by have := Int.ofNat_lt.1 h; omega)]
  | succ d ih =>
    intro i hi
    have hil : i < ks.length := by omega
    rw [List.range'_succ, List.all_cons, getD_get hil]
    obtain ⟨key, hkey⟩ : ∃ key, ks[i] = key := ⟨_, rfl⟩
    rw [hkey]
    have pre : ∀ (b : Bool) r, Ev (fun k => spec_keGood.j1 k (ks.map tx) (tx key) (ks.map tx) (ks.length : Int) (i : Int) b) r → (∀ k, (if ((tx key).size : Int) = ((ks.map tx).length : Int) then (if (i : Int) < ((tx key).size : Int) then (spec_keGood.j1 k (ks.map tx) (tx key) (ks.map tx) (ks.length : Int) (i : Int) ((bt (tx key) (i : Int)) != 63)) else (none)) else (spec_keGood.j1 k (ks.map tx) (tx key) (ks.map tx) (ks.length : Int) (i : Int) true)) = spec_keGood.j1 k (ks.map tx) (tx key) (ks.map tx) (ks.length : Int) (i : Int) b) → Ev (fun k => spec_keGood.l0 k (ks.map tx) (ks.map tx) (ks.length : Int) (i : Int)) r := by
      intro b r h he
      refine Ev.step (fun k => ?_) h
      simp only [spec_keGood.l0]
      rw [if_pos (Int.ofNat_lt.2 hil), if_pos (Int.natCast_nonneg _), if_pos (show (i : Int) < ((ks.map tx).length : Int) by rw [List.length_map]; exact Int.ofNat_lt.2 hil), rdK hil, hkey]
      exact he k
    have jt : Ev (fun k => spec_keGood.j1 k (ks.map tx) (tx key) (ks.map tx) (ks.length : Int) (i : Int) true) false := Ev.step (f := fun _ => some false) (fun k => by simp [spec_keGood.j1]) (Ev.now _)
    unfold keyOk
    by_cases c1 : key.length = ks.length
    · have hik : i < key.length := by omega
      have hb := bt_tx hik
      rw [decide_eq_true c1, Bool.true_and, List.getElem?_eq_getElem hik]
      by_cases c2 : key[i] = 63
      · have hb2 : (bt (tx key) (i : Int) != 63) = false := by rw [hb, bne_eq_false_iff_eq]; exact (is63 _).2 c2
        have h1 := keGood_l1 ks i key (by omega) (by omega) _ (ih (i + 1) (by omega)) key.length 0 (Nat.zero_add _)
        rw [List.drop_zero] at h1
        rw [c2]
        simp only [beq_self_eq_true, Bool.true_and]
        refine pre false _ (Ev.step (fun k => by simp only [spec_keGood.j1]; rw [if_neg Bool.false_ne_true]; rfl) h1) (fun k => ?_)
        rw [tx_size, List.length_map, if_pos (by rw [c1]), if_pos (Int.ofNat_lt.2 hik), hb2]
      · have hb2 : (bt (tx key) (i : Int) != 63) = true := by rw [hb, bne_iff_ne]; exact fun h => c2 ((is63 _).1 h)
        have e : (some key[i] == some (63 : UInt8)) = false := by simpa using c2
        rw [e, Bool.false_and, Bool.false_and]
        refine pre true _ jt (fun k => ?_)
        rw [tx_size, List.length_map, if_pos (by rw [c1]), if_pos (Int.ofNat_lt.2 hik), hb2]
    · rw [decide_eq_false c1, Bool.false_and, Bool.false_and]
      refine pre true _ jt (fun k => ?_)
      rw [tx_size, List.length_map, if_neg (show ¬ ((key.length : Int) = (ks.length : Int)) from fun h => c1 (Int.ofNat.inj h))]
theorem keGood (ks : List Stt) (hn : ks.length ≤ 2097152) : Ev (fun k => spec_keGood.f k (ks.map tx)) (keysOk ks) := by
  unfold spec_keGood.f keysOk
  rw [l1In_eq, List.length_map]
  by_cases c : 1 ≤ ks.length ∧ ks.length ≤ 10
  · rw [decide_eq_true c, Bool.true_and]
    exact Ev.congr (fun k => by rw [obind, if_pos (by rw [decide_eq_true_eq]; omega)]; rfl) (keGood_l0 ks (by omega) ks.length 0 (Nat.zero_add _))
  · rw [decide_eq_false c, Bool.false_and]
    exact Ev.congr (fun k => by rw [obind, if_neg (by rw [decide_eq_true_eq]; omega)]) (Ev.now _)
theorem isNeed (key : Stt) (n : Nat) (hn : n ≤ 2097152) : impl_isNeed.f (tx key) (n : Int) = some (decide (key.length = n) && key.all okk) := by
  unfold impl_isNeed.f
  rw [tx_size]
  by_cases c : key.length = n
  · rw [if_pos (by rw [c]), decide_eq_true c, Bool.true_and]
    rw [show (⟨#[48, 49, 63]⟩ : ByteArray) = ⟨[48, 49, 63].toArray⟩ from rfl, trim_eq (tx key) [48, 49, 63] (by rw [tx_size]; omega) (by decide) (by decide)]
    simp only [obind]
    rw [toList_nil, tx_data]
    have e : (key.all ([48, 49, 63].contains ·)) = key.all okk := by
      congr 1
      funext c
      simp only [okk, List.contains_cons, List.contains_nil, Bool.or_false]
    rw [show decide (Lib.trimS key [48, 49, 63] = []) = (key.all ([48, 49, 63].contains ·)) from by
      rw [Bool.eq_iff_iff]; simpa using trimS_nil key [48, 49, 63], e]
  · rw [if_neg (show ¬ ((key.length : Int) = (n : Int)) from fun h => c (Int.ofNat.inj h)), decide_eq_false c, Bool.false_and]
theorem areKeys_l0 (ks : List Stt) (hn : ks.length ≤ 2097152) : ∀ d i, i + d = ks.length → Ev (fun k => impl_AreKeys.l0 k (ks.map tx) (ks.map tx) (ks.length : Int) (i : Int)) ((List.range' i d).all (fun k => keyOk ks.length k (ks.getD k [])) && decide (1 ≤ ks.length ∧ ks.length ≤ 10)) := by
  intro d
  induction d with
  | zero =>
    intro i hi
    refine Ev.step (f := fun _ => some (decide (1 ≤ ks.length ∧ ks.length ≤ 10))) (fun k => ?_) (by
      show Ev _ (true && _)
      rw [Bool.true_and]
      exact Ev.now _)
    simp only [impl_AreKeys.l0]
    rw [if_neg (fun h => by have := Int.ofNat_lt.1 h; omega), in_eq, obind, List.length_map]
    congr 1
    rw [Bool.eq_iff_iff, decide_eq_true_eq, decide_eq_true_eq]
    omega
  | succ d ih =>
    intro i hi
    have hil : i < ks.length := by omega
    rw [List.range'_succ, List.all_cons, getD_get hil]
    obtain ⟨key, hkey⟩ : ∃ key, ks[i] = key := ⟨_, rfl⟩
    rw [hkey]
    have hne := isNeed key ks.length hn
    have e0 : ∀ k, impl_AreKeys.l0 (k + 1) (ks.map tx) (ks.map tx) (ks.length : Int) (i : Int) = (if (decide (key.length = ks.length) && key.all okk) = true then (if (i : Int) < (key.length : Int) then (if bt (tx key) (i : Int) = 63 then impl_AreKeys.l0 k (ks.map tx) (ks.map tx) (ks.length : Int) ((i + 1 : Nat) : Int) else some false) else none) else some false) := by
      intro k
      simp only [impl_AreKeys.l0]
      rw [if_pos (Int.ofNat_lt.2 hil), if_pos (Int.natCast_nonneg _), if_pos (show (i : Int) < ((ks.map tx).length : Int) by rw [List.length_map]; exact Int.ofNat_lt.2 hil), rdK hil, hkey, List.length_map, hne, obind, tx_size, succ64 (by omega)]
    unfold keyOk
    by_cases c1 : key.length = ks.length
    · have hik : i < key.length := by omega
      have hb := bt_tx hik
      rw [decide_eq_true c1, Bool.true_and, List.getElem?_eq_getElem hik]
      by_cases c2 : key.all okk = true
      · by_cases c3 : key[i] = 63
        · rw [c2, c3]
          simp only [beq_self_eq_true, Bool.true_and]
          exact Ev.step (fun k => by rw [e0, decide_eq_true c1, c2, if_pos (show (true && true) = true from rfl), if_pos (Int.ofNat_lt.2 hik), if_pos (by rw [hb]; exact (is63 _).2 c3)]) (ih (i + 1) (by omega))
        · have e : (some key[i] == some (63 : UInt8)) = false := by simpa using c3
          rw [e, Bool.false_and, Bool.false_and, Bool.false_and]
          exact Ev.step (f := fun _ => some false) (fun k => by rw [e0, decide_eq_true c1, c2, if_pos (show (true && true) = true from rfl), if_pos (Int.ofNat_lt.2 hik), if_neg (by rw [hb]; exact fun h => c3 ((is63 _).1 h))]) (Ev.now _)
      · rw [Bool.eq_false_iff.2 c2, Bool.and_false, Bool.false_and, Bool.false_and]
        exact Ev.step (f := fun _ => some false) (fun k => by rw [e0, Bool.eq_false_iff.2 c2, Bool.and_false, if_neg Bool.false_ne_true]) (Ev.now _)
    · rw [decide_eq_false c1, Bool.false_and, Bool.false_and, Bool.false_and]
      exact Ev.step (f := fun _ => some false) (fun k => by rw [e0, decide_eq_false c1, Bool.false_and, if_neg Bool.false_ne_true]) (Ev.now _)
theorem areKeys (ks : List Stt) (hn : ks.length ≤ 2097152) : Ev (fun k => impl_AreKeys.f k (ks.map tx)) (keysOk ks) := by
  have h := areKeys_l0 ks hn ks.length 0 (Nat.zero_add _)
  rw [Bool.and_comm] at h
  unfold impl_AreKeys.f
  rw [List.length_map]
  exact h
/-! ### Keys and states -/
theorem keys_parts {ks : List Stt} (h : keysOk ks = true) : (1 ≤ ks.length ∧ ks.length ≤ 10) ∧ ∀ k (hk : k < ks.length), ks[k].length = ks.length ∧ ks[k][k]? = some 63 ∧ ks[k].all okk = true := by
  unfold keysOk at h
  rw [Bool.and_eq_true, decide_eq_true_eq, List.all_eq_true] at h
  refine ⟨h.1, fun k hk => ?_⟩
  have h2 := h.2 k (by simp [List.mem_range'_1, hk])
  unfold keyOk at h2
  rw [getD_get hk] at h2
  simp only [Bool.and_eq_true, decide_eq_true_eq, beq_iff_eq] at h2
  exact h2
/-! ### Fitting -/

theorem as_tx (l : List ByteArray) : ∃ ks : List Stt, l = ks.map tx := ⟨l.map (fun b => b.data.toList), by
  rw [List.map_map]
  have : (tx ∘ fun b : ByteArray => b.data.toList) = id := by funext b; exact tx_self b
  rw [this, List.map_id]⟩

theorem extract_list (s : ByteArray) (a b : Nat) : (s.extract a b).data.toList = (s.data.toList.take b).drop a := by
  rw [ByteArray.data_extract, Array.toList_extract, List.extract_eq_take_drop, List.drop_take]

theorem app_tx (a b : Stt) : tx a ++ tx b = tx (a ++ b) := by
  apply ba_ext
  rw [ByteArray.data_append, Array.toList_append, tx_data, tx_data, tx_data]
theorem cut_tx (l : Stt) (a b : Nat) : (tx l).extract a b = tx ((l.take b).drop a) := ba_ext (by rw [extract_list, tx_data, tx_data])
end Go.Proofs.YtbmbehkdidlolaaGreatDoor.Lem
namespace Go.Proofs.YtbmbehkdidlolaaGreatDoor.Lem
open Go.RowKit Go.Proofs.YtbmbehkdidlolaaGreatDoor.PT Go.Proofs.YtbmbehkdidlolaaGreatDoorW.PrintWords Go.Proofs.YtbmbehkdidlolaaGreatDoorW.PrintLast Go.Proofs.YtbmbehkdidlolaaGreatDoorW.PrintMore Go.Proofs.YtbmbehkdidlolaaGreatDoor.Ring
set_option linter.unusedVariables false
set_option linter.unusedSimpArgs false

theorem wrap_i64 {n : Int} (h1 : -9223372036854775808 ≤ n) (h2 : n ≤ 9223372036854775807) : IntKind.i64.wrap n = n := by
  rw [IntKind.wrap_i64]
  omega
theorem and_one (a : Nat) (ha : a < 4611686018427387904) : Go.bits .and .i64 (a : Int) 1 = ((a % 2 : Nat) : Int) := by
  have h := (bits_nat .i64 62 (by decide) (fun n h0 h1 => wrap_i64 (by omega) (by have : (2 : Int) ^ 62 = 4611686018427387904 := rfl; omega)) a 1 (by omega) (by omega)).1
  rw [Nat.and_one_is_mod] at h
  exact h
theorem tdiv_two (n : Nat) : Int.tdiv (n : Int) 2 = ((n / 2 : Nat) : Int) := by
  rw [Int.tdiv_eq_ediv_of_nonneg (by omega)]
  omega
theorem shr_nat (n j : Nat) (hj : j ≤ 64) : shr .i64 (n : Int) (j : Int) = ((n / 2 ^ j : Nat) : Int) := by
  unfold shr
  have e : (j : Int).toNat = j := rfl
  rw [e, Nat.min_eq_left (by exact hj)]
  simp
theorem shl_one (j : Nat) (hj : j ≤ 62) : shl .i64 1 (j : Int) = ((2 ^ j : Nat) : Int) := by
  unfold shl
  have e : (j : Int).toNat = j := rfl
  have h : 2 ^ j ≤ 2 ^ 62 := Nat.pow_le_pow_right (by decide) hj
  have h' : (2 : Nat) ^ 62 = 4611686018427387904 := rfl
  rw [e, Nat.min_eq_left (show j ≤ IntKind.i64.bits from by show j ≤ 64; omega), Int.one_mul]
  have e2 : ((2 : Int) ^ j) = ((2 ^ j : Nat) : Int) := by simp
  rw [e2]
  generalize 2 ^ j = x at h ⊢
  exact wrap_i64 (by omega) (by omega)
theorem div_lt_big (n j : Nat) (hn : n < 4611686018427387904) : n / 2 ^ j < 4611686018427387904 := Nat.lt_of_le_of_lt (Nat.div_le_self _ _) hn
theorem stOf_take (r n : Nat) : stOf (r + 1) n = stOf r n ++ [sign n r] := by
  unfold stOf
  rw [List.range_succ]
  simp
theorem pred64 {n : Nat} (h : n < 4611686018427387904) (h1 : 1 ≤ n) : wrap64 ((n : Int) - 1) = ((n - 1 : Nat) : Int) := by rw [w64 (by omega) (by omega)]; omega
def ints (l : List Nat) : List Int := l.map fun k : Nat => (k : Int)
theorem rd_get {l : List Int} {i : Nat} (h : i < l.length) : rd l (i : Int) = l[i] := by
  show l.getD i 0 = l[i]
  simp [List.getD, h]

theorem riState_l0 (r n : Nat) (hr : r ≤ 60) (hn : n < 4611686018427387904) : ∀ (d j k : Nat), j ≤ r → r - j = d → d < k →
    spec_riState.l0 k (r : Int) (n : Int) ⟨(stOf j n).toArray⟩ (j : Int) = some ⟨(stOf r n).toArray⟩ := by
  intro d
  induction d with
  | zero =>
    intro j k hj hd hk
    obtain ⟨k, rfl⟩ : ∃ j, k = j + 1 := ⟨k - 1, by omega⟩
    have : j = r := by omega
    subst this
    simp only [spec_riState.l0]
    rw [if_neg (by omega)]
  | succ d ih =>
    intro j k hj hd hk
    obtain ⟨k, rfl⟩ : ∃ j, k = j + 1 := ⟨k - 1, by omega⟩
    have ew : wrap64 ((j : Int) + 1) = ((j + 1 : Nat) : Int) := by rw [w64 (by omega) (by omega)]; omega
    have e := ih (j + 1) k (by omega) (by omega) (by omega)
    simp only [spec_riState.l0]
    rw [if_pos (by omega), if_pos (by omega), ew, if_pos (by omega), shr_nat _ _ (by omega), shr_nat _ _ (by omega), and_one _ (div_lt_big n j hn), and_one _ (div_lt_big n (j + 1) hn)]
    have hsz : (⟨(stOf j n).toArray⟩ : ByteArray).size + 1 ≤ 9223372036854775807 := by rw [size_eq]; simp [stOf_length]; omega
    rw [if_pos hsz, append_one, append_one]
    rw [stOf_take] at e
    unfold sign at e
    by_cases h : n / 2 ^ j % 2 = n / 2 ^ (j + 1) % 2
    · rw [if_pos (by omega)]
      rw [if_pos h] at e
      exact e
    · rw [if_neg (by omega)]
      rw [if_neg h] at e
      rw [if_pos hsz]
      exact e
theorem riState (r n : Nat) (hr : r ≤ 60) (hn : n < 4611686018427387904) : Ev (fun k => spec_riState.f k (r : Int) (n : Int)) ⟨(stOf r n).toArray⟩ :=
  Ev.of (k := r + 1) (fun k => spec_riState.mono _ _ k) (riState_l0 r n hr hn r 0 (r + 1) (by omega) (by omega) (by omega))

def okN (n : Nat) (s : Stt) : Prop := s.length = n ∧ s.all okc = true
def fitAt (key s : Stt) (i : Nat) : Bool := key.getD i 0 == 63 || key.getD i 0 == s.getD i 0
def fits (key s : Stt) : Bool := (List.range' 0 key.length).all (fitAt key s)
theorem getD_of {l : Stt} {i : Nat} (h : i < l.length) : l.getD i 0 = l[i] := by simp [List.getD, h]
theorem int_toNat_inj {a b : UInt8} : ((a.toNat : Int) = (b.toNat : Int)) ↔ a = b := ⟨fun h => UInt8.toNat_inj.1 (Int.ofNat.inj h), fun h => by rw [h]⟩
theorem okk_small {c : UInt8} (h : okk c = true) : c.toNat < 128 := by rcases (okk_or c).1 h with h | h | h <;> rw [h] <;> decide
theorem keFits (key s : Stt) (hk : key.all okk = true) (hl : key.length = s.length) (h9 : key.length ≤ 1048576) : Ev (fun k => spec_keFits.f k (tx key) (tx s)) (fits key s) := by
  have h := ev_all (fun k i => spec_keFits.l0 k (tx key) (tx s) i.toNat) (fitAt key s) key.length ?_ ?_ ?_ key.length 0 (Nat.zero_add _)
  · unfold spec_keFits.f
    refine Ev.congr (fun k => ?_) h
    rw [tx_size, if_pos (by omega)]
    rfl
  · intro i hi hp r hr
    refine Ev.step (fun k => ?_) hr
    show spec_keFits.l0 (k + 1) (tx key) (tx s) i = spec_keFits.l0 k (tx key) (tx s) (i + 1)
    have his : i < s.length := by omega
    simp only [spec_keFits.l0]
    rw [tx_size, if_pos hi, tx_data, getD_of hi, if_pos (okk_small (List.all_eq_true.1 hk _ (List.getElem_mem hi))), bt_tx hi, bt_tx his, tx_size, if_pos his]
    simp only [is63, int_toNat_inj]
    unfold fitAt at hp
    rw [getD_of hi, getD_of his] at hp
    simp only [Bool.or_eq_true, beq_iff_eq] at hp
    rcases hp with hp | hp
    · rw [if_pos hp]
    · rw [if_pos hp]
      split <;> rfl
  · intro i hi hp
    refine Ev.step (f := fun _ => some false) (fun k => ?_) (Ev.now _)
    show spec_keFits.l0 (k + 1) (tx key) (tx s) i = some false
    have his : i < s.length := by omega
    simp only [spec_keFits.l0]
    rw [tx_size, if_pos hi, tx_data, getD_of hi, if_pos (okk_small (List.all_eq_true.1 hk _ (List.getElem_mem hi))), bt_tx hi, bt_tx his, tx_size, if_pos his]
    simp only [is63, int_toNat_inj]
    unfold fitAt at hp
    rw [getD_of hi, getD_of his] at hp
    simp only [Bool.or_eq_false_iff, beq_eq_false_iff_ne] at hp
    rw [if_neg hp.1, if_neg hp.2]
  · refine Ev.step (f := fun _ => some true) (fun k => ?_) (Ev.now _)
    show spec_keFits.l0 (k + 1) (tx key) (tx s) key.length = some true
    simp only [spec_keFits.l0]
    rw [tx_size, if_neg (Nat.lt_irrefl _)]
theorem meets (key s : Stt) (hl : key.length = s.length) (h9 : key.length ≤ 1048576) : Ev (fun k => impl_meets.f k (tx key) (tx s)) (fits key s) := by
  unfold impl_meets.f
  rw [tx_size]
  refine ev_all (fun k i => impl_meets.l0 k (tx key) (tx s) (key.length : Int) i) (fitAt key s) key.length ?_ ?_ ?_ key.length 0 (Nat.zero_add _)
  · intro i hi hp r hr
    refine Ev.step (fun k => ?_) hr
    have his : i < s.length := by omega
    simp only [impl_meets.l0]
    rw [if_pos (Int.ofNat_lt.2 hi), if_pos (Int.natCast_nonneg _), tx_size, if_pos (Int.ofNat_lt.2 hi), bt_tx hi, bt_tx his, tx_size, if_pos (Int.ofNat_lt.2 his), succ64 (by omega)]
    simp only [is63, int_toNat_inj]
    unfold fitAt at hp
    rw [getD_of hi, getD_of his] at hp
    simp only [Bool.or_eq_true, beq_iff_eq] at hp
    rcases hp with hp | hp
    · rw [if_pos hp]
    · rw [if_pos hp]
      split <;> rfl
  · intro i hi hp
    refine Ev.step (f := fun _ => some false) (fun k => ?_) (Ev.now _)
    have his : i < s.length := by omega
    simp only [impl_meets.l0]
    rw [if_pos (Int.ofNat_lt.2 hi), if_pos (Int.natCast_nonneg _), tx_size, if_pos (Int.ofNat_lt.2 hi), bt_tx hi, bt_tx his, tx_size, if_pos (Int.ofNat_lt.2 his)]
    simp only [is63, int_toNat_inj]
    unfold fitAt at hp
    rw [getD_of hi, getD_of his] at hp
    simp only [Bool.or_eq_false_iff, beq_eq_false_iff_ne] at hp
    rw [if_neg hp.1, if_neg hp.2]
  · refine Ev.step (f := fun _ => some true) (fun k => ?_) (Ev.now _)
    simp only [impl_meets.l0]
    rw [if_neg (Int.lt_irrefl _)]
/-! ### Moves -/
def mvK (ks : List Stt) (s : Stt) (i : Nat) : List Nat := (List.range i).filter (fun k => fits (ks.getD k []) s)
theorem mvK_succ (ks : List Stt) (s : Stt) (i : Nat) : mvK ks s (i + 1) = if fits (ks.getD i []) s = true then mvK ks s i ++ [i] else mvK ks s i := by
  unfold mvK
  rw [List.range_succ, List.filter_append]
  by_cases h : fits (ks.getD i []) s = true
  · rw [if_pos h, List.filter_cons_of_pos (p := fun k => fits (ks.getD k []) s) h, List.filter_nil]
  · rw [if_neg h, List.filter_cons_of_neg (p := fun k => fits (ks.getD k []) s) h, List.filter_nil, List.append_nil]
theorem mvK_len (ks : List Stt) (s : Stt) (i : Nat) : (mvK ks s i).length ≤ i := by
  unfold mvK
  exact Nat.le_trans (List.length_filter_le _ _) (by simp)
theorem keMoves {ks : List Stt} {s : Stt} (hk : keysOk ks = true) (hs : okN ks.length s) : Ev (fun k => spec_keMoves.f k (ks.map tx) (tx s)) (ints (mvK ks s ks.length)) := by
  obtain ⟨⟨k1, k2⟩, k3⟩ := keys_parts hk
  have key : ∀ d i, i + d = ks.length → Ev (fun k => spec_keMoves.l0 k (tx s) (ints (mvK ks s i)) (ks.map tx) (ks.length : Int) (i : Int)) (ints (mvK ks s ks.length)) := by
    intro d
    induction d with
    | zero =>
      intro i hi
      obtain rfl : i = ks.length := by omega
      refine Ev.step (f := fun _ => some (ints (mvK ks s ks.length))) (fun k => ?_) (Ev.now _)
      simp only [spec_keMoves.l0]
      rw [if_neg (Int.lt_irrefl _)]
    | succ d ih =>
      intro i hi
      have hil : i < ks.length := by omega
      obtain ⟨a1, a2, a3⟩ := k3 i hil
      have hf := keFits ks[i] s a3 (by rw [a1, hs.1]) (by omega)
      have hlen := mvK_len ks s i
      have hsucc := mvK_succ ks s i
      rw [getD_get hil] at hsucc
      refine ev_num hf (ih (i + 1) (by omega)) (fun k hk => ?_)
      simp only [spec_keMoves.l0]
      rw [if_pos (Int.ofNat_lt.2 hil), if_pos (Int.natCast_nonneg _), if_pos (show (i : Int) < ((ks.map tx).length : Int) by rw [List.length_map]; exact Int.ofNat_lt.2 hil), rdK hil, hk, obind, hsucc, succ64 (by omega)]
      by_cases c : fits ks[i] s = true
      · rw [if_pos c, if_pos c, if_pos (by unfold ints; rw [List.length_map]; omega)]
        unfold ints
        rw [List.map_append]
        rfl
      · rw [if_neg c, if_neg c]
  have h := key ks.length 0 (Nat.zero_add _)
  unfold spec_keMoves.f
  rw [List.length_map]
  exact h
theorem keyedMoves {ks : List Stt} {s : Stt} (hk : keysOk ks = true) (hs : okN ks.length s) : Ev (fun k => impl_keyedMoves.f k (ks.map tx) (tx s)) (ints (mvK ks s ks.length)) := by
  obtain ⟨⟨k1, k2⟩, k3⟩ := keys_parts hk
  have key : ∀ d i, i + d = ks.length → Ev (fun k => impl_keyedMoves.l0 k (tx s) (ints (mvK ks s i)) (ks.map tx) (ks.length : Int) (i : Int)) (ints (mvK ks s ks.length)) := by
    intro d
    induction d with
    | zero =>
      intro i hi
      obtain rfl : i = ks.length := by omega
      refine Ev.step (f := fun _ => some (ints (mvK ks s ks.length))) (fun k => ?_) (Ev.now _)
      simp only [impl_keyedMoves.l0]
      rw [if_neg (Int.lt_irrefl _)]
    | succ d ih =>
      intro i hi
      have hil : i < ks.length := by omega
      obtain ⟨a1, a2, a3⟩ := k3 i hil
      have hf := meets ks[i] s (by rw [a1, hs.1]) (by omega)
      have hlen := mvK_len ks s i
      have hsucc := mvK_succ ks s i
      rw [getD_get hil] at hsucc
      refine ev_num hf (ih (i + 1) (by omega)) (fun k hk => ?_)
      simp only [impl_keyedMoves.l0]
      rw [if_pos (Int.ofNat_lt.2 hil), if_pos (Int.natCast_nonneg _), if_pos (show (i : Int) < ((ks.map tx).length : Int) by rw [List.length_map]; exact Int.ofNat_lt.2 hil), rdK hil, hk, obind, hsucc, succ64 (by omega)]
      by_cases c : fits ks[i] s = true
      · rw [if_pos c, if_pos c, if_pos (by unfold ints; rw [List.length_map]; omega)]
        unfold ints
        rw [List.map_append]
        rfl
      · rw [if_neg c, if_neg c]
  have h := key ks.length 0 (Nat.zero_add _)
  unfold impl_keyedMoves.f
  rw [List.length_map]
  exact h

end Go.Proofs.YtbmbehkdidlolaaGreatDoor.Lem
namespace Go.Proofs.YtbmbehkdidlolaaGreatDoor.Lem
open Go.RowKit Go.Proofs.YtbmbehkdidlolaaGreatDoor.PT Go.Proofs.YtbmbehkdidlolaaGreatDoorW.PrintWords Go.Proofs.YtbmbehkdidlolaaGreatDoorW.PrintLast Go.Proofs.YtbmbehkdidlolaaGreatDoorW.PrintMore Go.Proofs.YtbmbehkdidlolaaGreatDoor.Ring
set_option linter.unusedVariables false
set_option linter.unusedSimpArgs false

/-- The states in the order of texts. -/
def tsK : Nat → List Stt
  | 0 => [[]]
  | n + 1 => (tsK n).flatMap (fun s => [s ++ [48], s ++ [49]])
def sumS (g : Stt → Nat) (l : List Stt) : Nat := (l.map g).sum
theorem sumS_append (g : Stt → Nat) (a b : List Stt) : sumS g (a ++ b) = sumS g a + sumS g b := by
  unfold sumS
  rw [List.map_append, List.sum_append]
theorem sumS_flat (g : Stt → Nat) : ∀ l : List Stt, sumS g (l.flatMap (fun s => [s ++ [48], s ++ [49]])) = sumS (fun s => g (s ++ [48]) + g (s ++ [49])) l
  | [] => rfl
  | s :: l => by
    rw [List.flatMap_cons, sumS_append, sumS_flat g l]
    simp only [sumS, List.map_cons, List.map_nil, List.sum_cons, List.sum_nil]
    omega
theorem sumS_congr {g h : Stt → Nat} (e : ∀ s, g s = h s) (l : List Stt) : sumS g l = sumS h l := by
  have : g = h := funext e
  rw [this]
theorem sum_front (g : Stt → Nat) : ∀ n, sumS g (tsK (n + 1)) = sumS (fun s => g (48 :: s) + g (49 :: s)) (tsK n)
  | 0 => by simp [tsK, sumS]
  | n + 1 => by
    have e1 : sumS g (tsK (n + 1 + 1)) = sumS (fun s => g (s ++ [48]) + g (s ++ [49])) (tsK (n + 1)) := sumS_flat g (tsK (n + 1))
    have e2 : sumS (fun s => g (48 :: s) + g (49 :: s)) (tsK (n + 1)) = sumS (fun s => (g (48 :: (s ++ [48])) + g (49 :: (s ++ [48]))) + (g (48 :: (s ++ [49])) + g (49 :: (s ++ [49])))) (tsK n) := sumS_flat _ (tsK n)
    rw [e1, e2, sum_front _ n]
    refine sumS_congr (fun s => ?_) (tsK n)
    simp only [List.cons_append]
    omega
/-- The sum over the numbers from 0 up to n. -/
def upS (g : Nat → Nat) : Nat → Nat
  | 0 => 0
  | n + 1 => upS g n + g n
theorem upS_two (g : Nat → Nat) : ∀ n, upS g (2 * n) = upS (fun j => g (2 * j) + g (2 * j + 1)) n
  | 0 => rfl
  | n + 1 => by
    have e : 2 * (n + 1) = 2 * n + 1 + 1 := by omega
    rw [e]
    simp only [upS]
    rw [upS_two g n]
    omega
theorem upS_congr {g h : Nat → Nat} : ∀ n, (∀ j, j < n → g j = h j) → upS g n = upS h n
  | 0, _ => rfl
  | n + 1, e => by
    simp only [upS]
    rw [upS_congr n (fun j hj => e j (by omega)), e n (by omega)]
theorem sign0 (j : Nat) : (sign (2 * j) 0 = 48 ∧ sign (2 * j + 1) 0 = 49) ∨ (sign (2 * j) 0 = 49 ∧ sign (2 * j + 1) 0 = 48) := by
  unfold sign
  have a1 : 2 * j / 2 ^ 0 % 2 = 0 := by simp
  have a2 : (2 * j + 1) / 2 ^ 0 % 2 = 1 := by simp
  have a3 : 2 * j / 2 ^ (0 + 1) = j := by simp
  have a4 : (2 * j + 1) / 2 ^ (0 + 1) = j := by simp; omega
  rw [a1, a2, a3, a4]
  by_cases h : j % 2 = 0
  · left; constructor
    · rw [if_pos (by omega)]
    · rw [if_neg (by omega)]
  · right; constructor
    · rw [if_neg (by omega)]
    · rw [if_pos (by omega)]
/-- In the order of numbers the sum is the same. -/
theorem sum_num : ∀ (n : Nat) (g : Stt → Nat), upS (fun i => g (stOf n i)) (2 ^ n) = sumS g (tsK n)
  | 0, g => by simp [upS, tsK, sumS, stOf]
  | n + 1, g => by
    rw [sum_front g n, ← sum_num n, Nat.pow_succ, Nat.mul_comm, upS_two]
    refine upS_congr _ (fun j _ => ?_)
    have d1 : 2 * j / 2 = j := by omega
    have d2 : (2 * j + 1) / 2 = j := by omega
    rw [stOf_succ, stOf_succ, d1, d2]
    rcases sign0 j with ⟨h1, h2⟩ | ⟨h1, h2⟩
    · rw [h1, h2]
    · rw [h1, h2]; omega
theorem tsK_length : ∀ n, (tsK n).length = 2 ^ n
  | 0 => rfl
  | n + 1 => by
    have : ∀ l : List Stt, (l.flatMap (fun s => [s ++ [48], s ++ [49]])).length = 2 * l.length := by
      intro l
      induction l with
      | nil => rfl
      | cons a l ih => rw [List.flatMap_cons, List.length_append, ih, List.length_cons]; simp; omega
    rw [tsK, this, tsK_length n, Nat.pow_succ]
    omega
theorem tsK_ok : ∀ n, ∀ s ∈ tsK n, okN n s
  | 0, s, h => by
    simp [tsK] at h
    subst h
    exact ⟨rfl, rfl⟩
  | n + 1, s, h => by
    rw [tsK, List.mem_flatMap] at h
    obtain ⟨t, ht, hs⟩ := h
    obtain ⟨h1, h2⟩ := tsK_ok n t ht
    simp only [List.mem_cons, List.not_mem_nil, or_false] at hs
    rcases hs with rfl | rfl
    · exact ⟨by rw [List.length_append, h1]; rfl, by rw [List.all_append, h2]; rfl⟩
    · exact ⟨by rw [List.length_append, h1]; rfl, by rw [List.all_append, h2]; rfl⟩
theorem sumS_le (g : Stt → Nat) (m : Nat) : ∀ l : List Stt, (∀ s ∈ l, g s ≤ m) → sumS g l ≤ l.length * m
  | [], _ => by simp [sumS]
  | s :: l, h => by
    have h1 := sumS_le g m l (fun t ht => h t (List.mem_cons_of_mem _ ht))
    have h2 := h s List.mem_cons_self
    simp only [sumS, List.map_cons, List.sum_cons, List.length_cons] at h1 ⊢
    rw [Nat.succ_mul]
    omega
end Go.Proofs.YtbmbehkdidlolaaGreatDoor.Lem
namespace Go.Proofs.YtbmbehkdidlolaaGreatDoor.Lem
open Go.RowKit Go.Proofs.YtbmbehkdidlolaaGreatDoor.PT Go.Proofs.YtbmbehkdidlolaaGreatDoorW.PrintWords Go.Proofs.YtbmbehkdidlolaaGreatDoorW.PrintLast Go.Proofs.YtbmbehkdidlolaaGreatDoorW.PrintMore Go.Proofs.YtbmbehkdidlolaaGreatDoor.Ring Go.Proofs.YtbmbehkdidlolaaGreatDoor.Bfs
set_option linter.unusedVariables false
set_option linter.unusedSimpArgs false

theorem isSt_len {l : List UInt8} (h : isSt l = true) : 1 ≤ l.length ∧ l.length ≤ 20 ∧ l.all okc = true := by
  simpa [isSt, and_assoc] using h
theorem num_le {l : List UInt8} (h : l.length ≤ 20) : num l < 1048576 := by
  have := num_lt l
  have : 2 ^ l.length ≤ 2 ^ 20 := Nat.pow_le_pow_right (by decide) h
  have e : 2 ^ 20 = 1048576 := rfl
  omega
theorem riNumber_l0 (s : ByteArray) (hs : s.data.toList.length ≤ 20) : ∀ (j k : Nat), j ≤ s.data.toList.length → j < k →
    spec_riNumber.l0 k s (num (s.data.toList.drop j) : Int) (dig (s.data.toList.drop j) : Int) ((j : Int) - 1) = some (num s.data.toList : Int) := by
  intro j
  induction j with
  | zero =>
    intro k _ hk
    obtain ⟨k, rfl⟩ : ∃ j, k = j + 1 := ⟨k - 1, by omega⟩
    simp only [spec_riNumber.l0]
    rw [if_neg (by omega)]
    rfl
  | succ j ih =>
    intro k hj hk
    obtain ⟨k, rfl⟩ : ∃ j, k = j + 1 := ⟨k - 1, by omega⟩
    have e := size_eq s
    have hlt : j < s.data.toList.length := by omega
    have hb := bt_get hlt
    have hd := List.drop_eq_getElem_cons hlt
    have h1 : num (s.data.toList.drop (j + 1)) < 1048576 := num_le (by rw [List.length_drop]; omega)
    have h2 := dig_lt (s.data.toList.drop (j + 1))
    have h3 := ih k (by omega) (by omega)
    have ei : ((j + 1 : Nat) : Int) - 1 = (j : Int) := by omega
    have ew : wrap64 ((j : Int) - 1) = (j : Int) - 1 := w64 (by omega) (by omega)
    simp only [spec_riNumber.l0]
    rw [ei, if_pos (by omega), if_pos (by omega), if_pos (by omega), hb, ew]
    simp only [is49]
    rw [hd, num, dig] at h3
    by_cases hc : s.data.toList[j] = 49
    · rw [if_pos hc]
      rw [if_pos hc] at h3
      rw [← h3]
      congr 1
      · rw [w64 (n := 2 * _) (by omega) (by omega), w64 (n := 1 - _) (by omega) (by omega), w64 (by omega) (by omega)]; omega
      · rw [w64 (by omega) (by omega)]; omega
    · rw [if_neg hc]
      rw [if_neg hc] at h3
      rw [← h3]
      congr 1
      rw [w64 (n := 2 * _) (by omega) (by omega), w64 (by omega) (by omega)]; omega
theorem riNumber (s : ByteArray) (hs : s.data.toList.length ≤ 20) : Ev (fun k => spec_riNumber.f k s) (num s.data.toList : Int) := by
  refine Ev.of (k := 21) (fun k => spec_riNumber.mono s k) ?_
  have h := riNumber_l0 s hs s.data.toList.length 21 (Nat.le_refl _) (by omega)
  rw [List.drop_length] at h
  unfold spec_riNumber.f
  have e := size_eq s
  rw [w64 (by omega) (by omega), e]
  exact h
theorem flip_parts (l : List UInt8) (k : Nat) (hk : k < l.length) : flipAt l k = l.take k ++ flipC l[k] :: l.drop (k + 1) := by
  unfold flipAt
  exact List.modify_eq_take_cons_drop hk
theorem join3 (l : List UInt8) (k : Nat) (hk : k < l.length) (c : UInt8) (hc : flipC l[k] = c) : (((tx l).extract 0 k ++ (⟨#[c]⟩ : ByteArray)) ++ (tx l).extract (k + 1) l.length) = tx (flipAt l k) := by
  apply ba_ext
  rw [tx_data, flip_parts l k hk, hc, ByteArray.data_append, ByteArray.data_append, Array.toList_append, Array.toList_append, extract_list, extract_list, tx_data, List.drop_zero, List.take_of_length_le (Nat.le_refl _)]
  simp
theorem riMove (l : List UInt8) (h20 : l.length ≤ 20) (ho : l.all okc = true) (k : Nat) (hk : k < l.length) : spec_riMove.f (tx l) (k : Int) = some (tx (flipAt l k)) := by
  have e := tx_size l
  have hb : bt (tx l) (k : Int) = (l[k].toNat : Int) := bt_opt (by rw [tx_data]; exact List.getElem?_eq_getElem hk)
  have hc : okc l[k] = true := List.all_eq_true.1 ho _ (List.getElem_mem _)
  have e1 : ((k : Nat) : Int).toNat = k := rfl
  have e2 : ((k + 1 : Nat) : Int).toNat = k + 1 := rfl
  have hx1 : ((tx l).extract 0 k).size ≤ 20 := by rw [size_eq, extract_list]; simp; omega
  have hx2 : ((tx l).extract (k + 1) l.length).size ≤ 20 := by rw [size_eq, extract_list, tx_data]; simp; omega
  unfold spec_riMove.f
  rw [if_pos (by omega), e, if_pos (by omega), hb]
  simp only [is49]
  have es : wrap64 ((k : Int) + 1) = ((k + 1 : Nat) : Int) := succ64 (by omega)
  rw [es, e1, e2]
  have hs1 : ∀ c : UInt8, ((tx l).extract 0 k ++ (⟨#[c]⟩ : ByteArray)).size = ((tx l).extract 0 k).size + 1 := fun c => by rw [ByteArray.size_append]; rfl
  rcases okc_cases hc with h | h
  · rw [if_neg (by rw [h]; decide), if_pos (by omega), if_pos (by omega), if_pos (by omega), if_pos (by omega), if_pos (by rw [hs1]; omega), join3 l k hk 49 (by rw [h]; decide)]
  · rw [if_pos h, if_pos (by omega), if_pos (by omega), if_pos (by omega), if_pos (by omega), if_pos (by rw [hs1]; omega), join3 l k hk 48 (by rw [h]; decide)]

theorem turned (l : List UInt8) (h20 : l.length ≤ 20) (ho : l.all okc = true) (k : Nat) (hk : k < l.length) : impl_turned.f (tx l) (k : Int) = some (tx (flipAt l k)) := by
  have e := tx_size l
  have hc : okc l[k] = true := List.all_eq_true.1 ho _ (List.getElem_mem _)
  have e1 : ((k : Nat) : Int).toNat = k := rfl
  have eg : l.getD k 0 = l[k] := by rw [List.getD_eq_getElem?_getD, List.getElem?_eq_getElem hk]; rfl
  unfold impl_turned.f
  rw [e1, tx_data, eg, e]
  have h97 : l[k].toNat ≤ 97 := by rcases okc_cases hc with h | h <;> rw [h] <;> decide
  rw [if_pos ⟨by omega, by omega, by omega, h97⟩]
  congr 1
  apply ba_ext
  rw [tx_data]
  apply List.ext_getElem?
  intro j
  show (l.set k (UInt8.ofNat (97 - l[k].toNat)))[j]? = _
  rw [List.getElem?_set, flipAt_get]
  by_cases h : k = j
  · subst h
    rw [if_pos rfl, if_pos rfl, if_pos hk, List.getElem?_eq_getElem hk]
    simp only [Option.map_some, Option.some.injEq]
    rcases okc_cases hc with h | h <;> rw [h] <;> decide
  · rw [if_neg h, if_neg h]
end Go.Proofs.YtbmbehkdidlolaaGreatDoor.Lem
namespace Go.Proofs.YtbmbehkdidlolaaGreatDoor.Lem
open Go.RowKit Go.Proofs.YtbmbehkdidlolaaGreatDoor.PT Go.Proofs.YtbmbehkdidlolaaGreatDoorW.PrintWords Go.Proofs.YtbmbehkdidlolaaGreatDoorW.PrintLast Go.Proofs.YtbmbehkdidlolaaGreatDoorW.PrintMore Go.Proofs.YtbmbehkdidlolaaGreatDoor.Bfs
set_option linter.unusedVariables false
set_option linter.unusedSimpArgs false

/-- At most so many ways are held. -/
def addC (a b : Int) : Int := impl_searched.cap (wrap64 (a + b))
def fB (st : St Stt) : ByteArray → Option Int := fun b => (st.far b.data.toList).map (fun n => (n : Int))
def gB (st : St Stt) : ByteArray → Option Int := fun b => if (st.far b.data.toList).isSome = true then some (st.ways b.data.toList) else none
theorem toL_eq {b : ByteArray} {s : Stt} : b.data.toList = s ↔ b = tx s := ⟨fun h => by rw [← h, tx_self], fun h => by rw [h, tx_data]⟩
theorem tx_inj {s t : Stt} (h : tx s = tx t) : s = t := by rw [← tx_data s, h, tx_data]
theorem fB_tx (st : St Stt) (s : Stt) : fB st (tx s) = (st.far s).map (fun n => (n : Int)) := by unfold fB; rw [tx_data]
theorem gB_tx (st : St Stt) (s : Stt) : gB st (tx s) = if (st.far s).isSome = true then some (st.ways s) else none := by unfold gB; rw [tx_data]
theorem fB_new (st : St Stt) (t : Stt) (n : Nat) (q : List Stt) (w : Stt → Int) : fB ⟨q, Bfs.upd st.far t (some n), w⟩ = MapS.upd (fB st) (tx t) (n : Int) := by
  funext b
  simp only [fB, Bfs.upd, MapS.upd, toL_eq]
  split <;> rfl
theorem fB_same (st : St Stt) (q : List Stt) (w : Stt → Int) : fB ⟨q, st.far, w⟩ = fB st := rfl
theorem gB_new (st : St Stt) (t : Stt) (n : Nat) (q : List Stt) (v : Int) : gB ⟨q, Bfs.upd st.far t (some n), Bfs.upd st.ways t v⟩ = MapS.upd (gB st) (tx t) v := by
  funext b
  simp only [gB, Bfs.upd, MapS.upd, toL_eq]
  by_cases h : b = tx t
  · rw [if_pos h, if_pos h, if_pos h]; rfl
  · rw [if_neg h, if_neg h, if_neg h]
theorem gB_same (st : St Stt) (t : Stt) (v : Int) (h : (st.far t).isSome = true) (q : List Stt) : gB ⟨q, st.far, Bfs.upd st.ways t v⟩ = MapS.upd (gB st) (tx t) v := by
  funext b
  simp only [gB, Bfs.upd, MapS.upd, toL_eq]
  by_cases e : b = tx t
  · rw [if_pos e, if_pos e, if_pos]
    rw [e, tx_data]; exact h
  · rw [if_neg e, if_neg e]
/-- What a search goes over: states of bounded size and number, told apart by their numbers. -/
structure Setup (step : Stt → List Stt) (ok : Stt → Prop) (num : Stt → Nat) (N : Nat) : Prop where
  next : ∀ s, ok s → ∀ t ∈ step s, ok t
  lt : ∀ s, ok s → num s < N
  inj : ∀ s t, ok s → ok t → num s = num t → s = t
  small : ∀ s, ok s → s.length ≤ 1000
  few : ∀ s, ok s → (step s).length ≤ 1000
  nle : N ≤ 1000000
structure GoodS (ok : Stt → Prop) (st : St Stt) : Prop where
  bnd : ∀ t n, st.far t = some n → n < st.q.length
  ok : ∀ x ∈ st.q, ok x
  out : ∀ t, st.far t = none → st.ways t = 0
theorem GoodS.len {step : Stt → List Stt} {ok : Stt → Prop} {num : Stt → Nat} {N : Nat} (S : Setup step ok num N) {st : St Stt} (G : GoodS ok st) (hn : st.q.Nodup) : st.q.length ≤ N := by
  have h := nodup_bound N (st.q.map num) ?_ ?_
  · rwa [List.length_map] at h
  · unfold List.Nodup
    rw [List.pairwise_map]
    exact List.Pairwise.imp_of_mem (fun ha hb hne e => hne (S.inj _ _ (G.ok _ ha) (G.ok _ hb) e)) hn
  · intro x hx
    obtain ⟨y, hy, rfl⟩ := List.mem_map.1 hx
    exact S.lt y (G.ok y hy)
theorem GoodS.d {ok : Stt → Prop} {st : St Stt} (G : GoodS ok st) {u : Stt} (hu : (st.far u).isSome = true) : Bfs.d st u < st.q.length := by
  obtain ⟨m, hm⟩ := Option.isSome_iff_exists.1 hu
  have := G.bnd u m hm
  simp [Bfs.d, hm]
  exact this
theorem GoodS.relaxed {ok : Stt → Prop} {st : St Stt} (G : GoodS ok st) (add : Int → Int → Int) {u t : Stt} (hu : (st.far u).isSome = true) (ht : ok t) : GoodS ok (relax add u st t) := by
  have hd := G.d hu
  obtain ⟨hq, hf⟩ := relax_q_far add u st t
  constructor
  · intro x n hx
    rw [hf] at hx
    rw [hq]
    by_cases h : (st.far t).isNone = true
    · rw [if_pos h] at hx ⊢
      rw [List.length_append]
      simp only [List.length_cons, List.length_nil]
      by_cases e : x = t
      · simp only [Bfs.upd, e, if_true, Option.some.injEq] at hx
        omega
      · simp only [Bfs.upd, e, if_false] at hx
        have := G.bnd x n hx
        omega
    · rw [if_neg h] at hx ⊢
      exact G.bnd x n hx
  · intro x hx
    rw [hq] at hx
    split at hx
    · rw [List.mem_append] at hx
      rcases hx with hx | hx
      · exact G.ok x hx
      · simp at hx; exact hx ▸ ht
    · exact G.ok x hx
  · intro x hx
    cases hft : st.far t with
    | none =>
      have hut : u ≠ t := fun e => by rw [e, hft] at hu; cases hu
      rw [relax_new hft hut] at hx ⊢
      have hxt : x ≠ t := fun e => by simp [Bfs.upd, e] at hx
      simp only [Bfs.upd, if_neg hxt] at hx ⊢
      exact G.out x hx
    | some v =>
      by_cases hv : v = Bfs.d st u + 1
      · rw [relax_same (by rw [hft, hv])] at hx ⊢
        have hxt : x ≠ t := fun e => by rw [e] at hx; rw [hft] at hx; cases hx
        simp only [Bfs.upd, if_neg hxt]
        exact G.out x hx
      · rw [relax_not (by rw [hft]; simp) (by rw [hft]; simpa using hv)] at hx ⊢
        exact G.out x hx
theorem GoodS.foldl {ok : Stt → Prop} {step : Stt → List Stt} {s : Stt} {i : Nat} {u : Stt} (add : Int → Int → Int) (l : List Stt) : ∀ (st : St Stt) (p : List Stt),
    InvIn step s st i u p → GoodS ok st → (∀ t ∈ l, t ∈ step u) → (∀ t ∈ step u, ok t) → GoodS ok (l.foldl (relax add u) st) := by
  induction l with
  | nil => intro st p I G _ _; exact G
  | cons t l ih =>
    intro st p I G h hN
    have ht := h t (by simp)
    have huf := (I.iff u).2 (List.mem_of_getElem? I.at_)
    exact ih _ _ (I.relaxed add ht) (G.relaxed add huf (hN t ht)) (fun x hx => h x (by simp [hx])) hN
theorem GoodS.start {ok : Stt → Prop} {s : Stt} (hs : ok s) : GoodS ok (init s) := by
  refine ⟨fun t n h => ?_, fun x hx => ?_, fun t h => ?_⟩
  · by_cases e : t = s
    · simp [init, e] at h; simp [init, ← h]
    · simp [init, e] at h
  · simp [init] at hx
    exact hx ▸ hs
  · by_cases e : t = s
    · simp [init, e] at h
    · simp [init, e]
/-- The search, whole. -/
theorem run_good {step : Stt → List Stt} {ok : Stt → Prop} {num : Stt → Nat} {N : Nat} (S : Setup step ok num N) (add : Int → Int → Int) (s : Stt) : ∀ m i (st : St Stt), Inv step s st i → GoodS ok st → N ≤ i + m →
    Inv step s (run add step m i st) (run add step m i st).q.length ∧ GoodS ok (run add step m i st) := by
  intro m
  induction m with
  | zero =>
    intro i st I G hm
    have h1 := G.len S I.nodup
    have h2 := I.le
    have e : st.q.length = i := by omega
    exact ⟨by show Inv step s st st.q.length; rw [e]; exact I, G⟩
  | succ m ih =>
    intro i st I G hm
    unfold run
    by_cases hi : i < st.q.length
    · rw [dif_pos hi]
      exact ih (i + 1) _ (I.process add hi) (GoodS.foldl add (step st.q[i]) st [] (I.enter hi) G (fun t ht => ht) (S.next _ (G.ok _ (List.getElem_mem hi)))) (by omega)
    · rw [dif_neg hi]
      have h2 := I.le
      have e : st.q.length = i := by omega
      exact ⟨by rw [e]; exact I, G⟩
def found (step : Stt → List Stt) (N : Nat) (s : Stt) : St Stt := run addC step N 0 (init s)
theorem found_good {step : Stt → List Stt} {ok : Stt → Prop} {num : Stt → Nat} {N : Nat} (S : Setup step ok num N) {s : Stt} (hs : ok s) : Inv step s (found step N s) (found step N s).q.length ∧ GoodS ok (found step N s) :=
  run_good S addC s N 0 (init s) (Inv.start _ _) (GoodS.start hs) (by omega)
theorem rdM {l : List Stt} {i : Nat} (h : i < l.length) : rdOf ByteArray.empty (l.map tx) (i : Int) = tx l[i] := by
  rw [rdS_get (by rw [List.length_map]; exact h), List.getElem_map]
theorem sz_le {n : Nat} (h : n ≤ 1000) : n ≤ maxLen := Nat.le_trans h (by decide)
theorem ar_j {j d n : Nat} (h : j + (d + 1) = n) : j + 1 + d = n := by omega
theorem ar_1 {c d n : Nat} (h : c + 2 * (d + 1) ≤ n) : c + 1 + 2 * d ≤ n := by omega
theorem ar_2 {c d n : Nat} (h : c + 2 * (d + 1) ≤ n) : c + 1 + 1 + 2 * d ≤ n := by omega
theorem ar_3 {c d n : Nat} (h : n ≤ c + 1 + 2 * d) : n ≤ c + 2 * (d + 1) := by omega
theorem ar_4 {c d n : Nat} (h : n ≤ c + 1 + 1 + 2 * d) : n ≤ c + 2 * (d + 1) := by omega
theorem sr_l1 {step : Stt → List Stt} {ok : Stt → Prop} {num : Stt → Nat} {N : Nat} (S : Setup step ok num N) (moves : Nat → ByteArray → Option (List ByteArray)) (s0 : Stt) (i : Nat) (u : Stt) : ∀ (d j : Nat) (st : St Stt) (p : List Stt) (c : Nat),
    j + d = (step u).length → InvIn step s0 st i u p → GoodS ok st → c + 2 * d ≤ 4000000000000 →
    ∃ c', c' ≤ c + 2 * d ∧ ∀ R, Ev (fun k => impl_searched.l0 moves k ((((step u).drop j).foldl (relax addC u) st).q.map tx) (fB (((step u).drop j).foldl (relax addC u) st)) (gB (((step u).drop j).foldl (relax addC u) st)) c' ((i + 1 : Nat) : Int)) R →
      Ev (fun k => impl_searched.l1 moves k (tx u) ((step u).map tx) (st.q.map tx) (fB st) (gB st) c (i : Int) (j : Int)) R := by
  intro d
  induction d with
  | zero =>
    intro j st p c hj I G hc
    have hil : i < 1000001 := by have h1 := G.len S I.nodup; have h2 := I.lt; have h3 := S.nle; omega
    refine ⟨c, Nat.le_refl _, fun R h => ?_⟩
    rw [List.drop_eq_nil_of_le (by omega), List.foldl_nil] at h
    refine Ev.step (fun k => ?_) h
    simp only [impl_searched.l1]
    rw [List.length_map, if_neg (show ¬ (j : Int) < ((step u).length : Int) from fun h => by have := Int.ofNat_lt.1 h; omega), succ64 (by omega)]
  | succ d ih =>
    intro j st p c hj I G hc
    have hjl : j < (step u).length := by omega
    obtain ⟨t, ht⟩ : ∃ t, (step u)[j] = t := ⟨_, rfl⟩
    have hdr : (step u).drop j = t :: (step u).drop (j + 1) := by rw [List.drop_eq_getElem_cons hjl, ht]
    have htm : t ∈ step u := ht ▸ List.getElem_mem hjl
    have huq : u ∈ st.q := List.mem_of_getElem? I.at_
    have hou := G.ok u huq
    have hot := S.next u hou t htm
    have huf := (I.iff u).2 huq
    have hlen := G.len S I.nodup
    have hql : st.q.length < 4398046511104 := by have := S.nle; omega
    have hi62 : st.q.length < 4611686018427387904 := by omega
    have hj62 : j < 4611686018427387904 := by have := S.few u hou; omega
    have hdu := G.d huf
    obtain ⟨m, hm⟩ := Option.isSome_iff_exists.1 huf
    have hdm : Bfs.d st u = m := by simp [Bfs.d, hm]
    have hrd : rdOf ByteArray.empty ((step u).map tx) (j : Int) = tx t := by rw [rdM hjl, ht]
    have hJ : (j : Int) < (((step u).map tx).length : Int) := by rw [List.length_map]; exact Int.ofNat_lt.2 hjl
    have hcond : (tx u).size ≤ maxLen ∧ (tx t).size ≤ maxLen ∧ c < 4398046511104 ∧ (st.q.map tx).length < 4398046511104 :=
      ⟨by rw [tx_size]; exact sz_le (S.small u hou), by rw [tx_size]; exact sz_le (S.small t hot), Nat.lt_of_le_of_lt (Nat.le_trans (Nat.le_add_right c (2 * (d + 1))) hc) (by decide), by rw [List.length_map]; exact hql⟩
    have hfu : (fB st (tx u)).getD 0 = ((Bfs.d st u : Nat) : Int) := by rw [fB_tx, hm, hdm]; rfl
    have hgu : (gB st (tx u)).getD 0 = st.ways u := by rw [gB_tx, if_pos huf]; rfl
    have hsd : wrap64 (((Bfs.d st u : Nat) : Int) + 1) = ((Bfs.d st u + 1 : Nat) : Int) := succ64 (by omega)
    have hsj : wrap64 ((j : Int) + 1) = ((j + 1 : Nat) : Int) := succ64 hj62
    have I2 := I.relaxed addC htm
    have G2 := G.relaxed addC huf hot
    have hgt : (gB st (tx t)).getD 0 = st.ways t := by
      rw [gB_tx]
      by_cases h : (st.far t).isSome = true
      · rw [if_pos h]; rfl
      · rw [if_neg h]
        rw [G.out t (by cases e : st.far t with
          | none => rfl
          | some v => rw [e] at h; exact absurd rfl h)]
        rfl
    rw [hdr]
    simp only [List.foldl_cons]
    cases hft : st.far t with
    | none =>
      have hut : u ≠ t := fun e => by rw [e, hft] at huf; cases huf
      rw [relax_new hft hut] at I2 G2 ⊢
      obtain ⟨c', hc', K⟩ := ih (j + 1) _ _ (c + 1 + 1) (ar_j hj) I2 G2 (ar_2 hc)
      refine ⟨c', ar_4 hc', fun R h => ?_⟩
      refine Ev.step (fun k => ?_) (K R h)
      simp only [impl_searched.l1]
      rw [if_pos hJ, if_pos (Int.natCast_nonneg _), hrd, if_pos hcond, if_neg (show ¬ (fB st (tx t)).isSome = true by rw [fB_tx, hft]; simp), hfu, hsd]
      have hne : tx u ≠ tx t := fun e => hut (tx_inj e)
      have hup : (MapS.upd (fB st) (tx t) ((Bfs.d st u + 1 : Nat) : Int) (tx u)).getD 0 = ((Bfs.d st u : Nat) : Int) := by unfold MapS.upd; rw [if_neg hne]; exact hfu
      rw [hup, hsd, if_pos rfl, hgt, hgu, hsj, fB_new, gB_new, List.map_append]
      rfl
    | some v =>
      have hsome : (fB st (tx t)).isSome = true := by rw [fB_tx, hft]; rfl
      have hft2 : (fB st (tx t)).getD 0 = (v : Int) := by rw [fB_tx, hft]; rfl
      by_cases hvd : v = Bfs.d st u + 1
      · rw [relax_same (by rw [hft, hvd])] at I2 G2 ⊢
        obtain ⟨c', hc', K⟩ := ih (j + 1) _ _ (c + 1) (ar_j hj) I2 G2 (ar_1 hc)
        refine ⟨c', ar_3 hc', fun R h => ?_⟩
        refine Ev.step (fun k => ?_) (K R h)
        simp only [impl_searched.l1]
        rw [if_pos hJ, if_pos (Int.natCast_nonneg _), hrd, if_pos hcond, if_pos hsome, hft2, hfu, hsd, if_pos (by rw [hvd]), hgt, hgu, hsj, gB_same st t _ (by rw [hft]; rfl), fB_same]
        rfl
      · rw [relax_not (by rw [hft]; simp) (by rw [hft]; simpa using hvd)] at I2 G2 ⊢
        have hvn : ¬ ((v : Int) = ((Bfs.d st u + 1 : Nat) : Int)) := fun h => hvd (Int.ofNat.inj h)
        obtain ⟨c', hc', K⟩ := ih (j + 1) _ _ (c + 1) (ar_j hj) I2 G2 (ar_1 hc)
        refine ⟨c', ar_3 hc', fun R h => ?_⟩
        refine Ev.step (fun k => ?_) (K R h)
        simp only [impl_searched.l1]
        rw [if_pos hJ, if_pos (Int.natCast_nonneg _), hrd, if_pos hcond, if_pos hsome, hft2, hfu, hsd, if_neg hvn, hsj]
theorem sr_l0 {step : Stt → List Stt} {ok : Stt → Prop} {num : Stt → Nat} {N : Nat} (S : Setup step ok num N) (moves : Nat → ByteArray → Option (List ByteArray)) (hm : ∀ s, ok s → Ev (fun k => moves k (tx s)) ((step s).map tx)) (s0 : Stt) :
    ∀ (m i : Nat) (st : St Stt) (c : Nat), Inv step s0 st i → GoodS ok st → N ≤ i + m → c + 2000 * m ≤ 4000000000000 →
    Ev (fun k => impl_searched.l0 moves k (st.q.map tx) (fB st) (gB st) c (i : Int)) ((run addC step m i st).q.map tx, fB (run addC step m i st), gB (run addC step m i st)) := by
  intro m
  induction m with
  | zero =>
    intro i st c I G hN hc
    have h1 := G.len S I.nodup
    refine Ev.step (f := fun _ => some (st.q.map tx, fB st, gB st)) (fun k => ?_) (Ev.now _)
    simp only [impl_searched.l0]
    rw [List.length_map, if_neg (fun h => by have := Int.ofNat_lt.1 h; omega)]
  | succ m ih =>
    intro i st c I G hN hc
    by_cases hi : i < st.q.length
    · obtain ⟨u, hu⟩ : ∃ u, st.q[i] = u := ⟨_, rfl⟩
      have hin := I.enter hi
      rw [hu] at hin
      have hou : ok u := hu ▸ G.ok _ (List.getElem_mem hi)
      have I2 := I.process addC hi
      rw [hu] at I2
      have G2 : GoodS ok (process addC step st u) := GoodS.foldl addC (step u) st [] hin G (fun t ht => ht) (S.next u hou)
      have hfew := S.few u hou
      obtain ⟨c', hc', K⟩ := sr_l1 S moves s0 i u (step u).length 0 st [] c (Nat.zero_add _) hin G (by omega)
      have e := ih (i + 1) _ c' I2 G2 (by omega) (by omega)
      rw [List.drop_zero] at K
      have e2 := K _ e
      have hrun : run addC step (m + 1) i st = run addC step m (i + 1) (process addC step st u) := by
        conv => lhs; unfold run
        rw [dif_pos hi, hu]
      rw [hrun]
      refine ev_num (hm u hou) e2 (fun k hk => ?_)
      simp only [impl_searched.l0]
      rw [if_pos (show (i : Int) < ((st.q.map tx).length : Int) by rw [List.length_map]; exact Int.ofNat_lt.2 hi), if_pos (Int.natCast_nonneg _), rdM hi, hu, hk, obind]
      rfl
    · have hrun : run addC step (m + 1) i st = st := by
        conv => lhs; unfold run
        rw [dif_neg hi]
      rw [hrun]
      refine Ev.step (f := fun _ => some (st.q.map tx, fB st, gB st)) (fun k => ?_) (Ev.now _)
      simp only [impl_searched.l0]
      rw [List.length_map, if_neg (fun h => hi (Int.ofNat_lt.1 h))]
/-- What the program's search finds. -/
theorem searched_run {step : Stt → List Stt} {ok : Stt → Prop} {num : Stt → Nat} {N : Nat} (S : Setup step ok num N) (moves : Nat → ByteArray → Option (List ByteArray)) (hm : ∀ s, ok s → Ev (fun k => moves k (tx s)) ((step s).map tx)) (s : Stt) (hs : ok s) :
    Ev (fun k => impl_searched.f moves k (tx s)) ((found step N s).q.map tx, fB (found step N s), gB (found step N s)) := by
  have h := sr_l0 S moves hm s N 0 (init s) 1 (Inv.start _ _) (GoodS.start hs) (by omega) (by have := S.nle; omega)
  unfold impl_searched.f
  have e1 : fB (init s) = MapS.upd (fun _ => none) (tx s) 0 := by
    funext b
    simp only [fB, init, MapS.upd, toL_eq]
    split <;> rfl
  have e2 : gB (init s) = MapS.upd (fun _ => none) (tx s) 1 := by
    funext b
    simp only [gB, init, MapS.upd, toL_eq]
    by_cases e : b = tx s
    · simp [e]
    · simp [e]
  rw [e1, e2] at h
  exact h
end Go.Proofs.YtbmbehkdidlolaaGreatDoor.Lem
namespace Go.Proofs.YtbmbehkdidlolaaGreatDoor.Bfs
set_option linter.unusedSectionVars false
variable {α : Type} [DecidableEq α]
theorem Path.cons {step : α → List α} {a b c : α} {n : Nat} (h : b ∈ step a) (p : Path step b n c) : Path step a (n + 1) c := by
  induction p with
  | nil => exact .snoc .nil h
  | snoc _ hc ih => exact .snoc ih hc
theorem Path.back {step : α → List α} {P : α → Prop} (hP : ∀ a b, P a → b ∈ step a → P b) (hs : ∀ a b, P a → b ∈ step a → a ∈ step b) {a c : α} {n : Nat} (ha : P a) (p : Path step a n c) : P c ∧ Path step c n a := by
  induction p with
  | nil => exact ⟨ha, .nil⟩
  | @snoc n b c _ hc ih => exact ⟨hP b c ih.1 hc, .cons (hs b c ih.1 hc) ih.2⟩
theorem Final.sym {step : α → List α} {P : α → Prop} (hP : ∀ a b, P a → b ∈ step a → P b) (hs : ∀ a b, P a → b ∈ step a → a ∈ step b) {a b : α} (ha : P a) (hb : P b) {sa sb : St α}
    (fa : Final step a sa) (fb : Final step b sb) : sa.far b = sb.far a := by
  have key : ∀ {a b : α} {sa sb : St α}, P a → Final step a sa → Final step b sb → ∀ n, sa.far b = some n → ∃ m, sb.far a = some m ∧ m ≤ n := by
    intro a b sa sb ha fa fb n h
    exact fb.least a n ((fa.path b n h).back hP hs ha).2
  cases h : sa.far b with
  | none =>
    cases h2 : sb.far a with
    | none => rfl
    | some m =>
      obtain ⟨k, hk, _⟩ := key hb fb fa m h2
      rw [h] at hk; cases hk
  | some n =>
    obtain ⟨m, hm, h1⟩ := key ha fa fb n h
    obtain ⟨k, hk, h2⟩ := key hb fb fa m hm
    rw [h] at hk
    obtain rfl := Option.some.inj hk
    rw [hm]
    congr 1
    omega
end Go.Proofs.YtbmbehkdidlolaaGreatDoor.Bfs
namespace Go.Proofs.YtbmbehkdidlolaaGreatDoor.Lem
open Go.RowKit Go.Proofs.YtbmbehkdidlolaaGreatDoor.PT Go.Proofs.YtbmbehkdidlolaaGreatDoorW.PrintWords Go.Proofs.YtbmbehkdidlolaaGreatDoorW.PrintLast Go.Proofs.YtbmbehkdidlolaaGreatDoorW.PrintMore Go.Proofs.YtbmbehkdidlolaaGreatDoor.Ring Go.Proofs.YtbmbehkdidlolaaGreatDoor.Bfs
set_option linter.unusedVariables false
set_option linter.unusedSimpArgs false

theorem max3 {a b c n : Nat} (h : max a (max b c) + 1 ≤ n) : ∃ k, n = k + 1 ∧ a ≤ k ∧ b ≤ k ∧ c ≤ k := ⟨n - 1, by omega, by omega, by omega, by omega⟩
def stepK (ks : List Stt) (s : Stt) : List Stt := (mvK ks s ks.length).map (flipAt s)
theorem pow10 : ∀ {n : Nat}, n ≤ 10 → 2 ^ n ≤ 1024 := fun h => Nat.pow_le_pow_right (by decide) h
theorem mvK_lt {ks : List Stt} {s : Stt} {i k : Nat} (h : k ∈ mvK ks s i) : k < i ∧ fits (ks.getD k []) s = true := by
  unfold mvK at h
  rw [List.mem_filter, List.mem_range] at h
  exact h
theorem okN_flip {n : Nat} {s : Stt} (h : okN n s) (k : Nat) : okN n (flipAt s k) := ⟨by rw [flipAt_length]; exact h.1, flipAt_ok h.2 k⟩
theorem step_lenK (ks : List Stt) (s : Stt) : (stepK ks s).length = (mvK ks s ks.length).length := by unfold stepK; rw [List.length_map]
theorem setupK {ks : List Stt} (hk : keysOk ks = true) : Setup (stepK ks) (okN ks.length) num (2 ^ ks.length) := by
  obtain ⟨⟨k1, k2⟩, k3⟩ := keys_parts hk
  refine ⟨?_, ?_, ?_, ?_, ?_, ?_⟩
  · intro s hs t ht
    obtain ⟨m, hm, rfl⟩ := List.mem_map.1 ht
    exact okN_flip hs m
  · intro s hs
    have := num_lt s
    rwa [hs.1] at this
  · intro s t hs ht e
    exact num_inj hs.2 ht.2 (by rw [hs.1, ht.1]) e
  · intro s hs
    have := hs.1
    omega
  · intro s _
    rw [step_lenK]
    have := mvK_len ks s ks.length
    omega
  · exact Nat.le_trans (pow10 k2) (by decide)
theorem rd_ints {l : List Nat} {i : Nat} (h : i < l.length) : rd (ints l) (i : Int) = ((l[i] : Nat) : Int) := by
  have hi : i < (ints l).length := by unfold ints; rw [List.length_map]; exact h
  rw [rd_get hi]
  exact List.getElem_map _
theorem ints_len (l : List Nat) : (ints l).length = l.length := by unfold ints; rw [List.length_map]
theorem stepK_get {ks : List Stt} {s : Stt} {j : Nat} (h : j < (mvK ks s ks.length).length) (h2 : j < (stepK ks s).length) : (stepK ks s)[j] = flipAt s (mvK ks s ks.length)[j] := List.getElem_map _
theorem search1K_l0 {ks : List Stt} (hk : keysOk ks = true) {s : Stt} (hs : okN ks.length s) : ∀ d i (acc : List Stt), i + d = (mvK ks s ks.length).length → acc.length = i →
    Ev (fun k => impl_searchKeyed_1.l0 (tx s) k (ints (mvK ks s ks.length)) (acc.map tx) (i : Int)) ((acc ++ ((mvK ks s ks.length).drop i).map (flipAt s)).map tx) := by
  obtain ⟨⟨k1, k2⟩, k3⟩ := keys_parts hk
  have hl := mvK_len ks s ks.length
  intro d
  induction d with
  | zero =>
    intro i acc h ha
    rw [List.drop_eq_nil_of_le (by omega), List.map_nil, List.append_nil]
    refine Ev.step (f := fun _ => some (acc.map tx)) (fun k => ?_) (Ev.now _)
    simp only [impl_searchKeyed_1.l0]
    rw [ints_len, if_neg (fun h => by have := Int.ofNat_lt.1 h; omega)]
  | succ d ih =>
    intro i acc h ha
    have hi : i < (mvK ks s ks.length).length := by omega
    obtain ⟨m, hm⟩ : ∃ m, (mvK ks s ks.length)[i] = m := ⟨_, rfl⟩
    have hmm := mvK_lt (hm ▸ List.getElem_mem hi)
    have ht := turned s (by have := hs.1; omega) hs.2 m (by rw [hs.1]; exact hmm.1)
    have e := ih (i + 1) (acc ++ [flipAt s m]) (by omega) (by rw [List.length_append, ha]; rfl)
    have e2 : (acc ++ ((mvK ks s ks.length).drop i).map (flipAt s)) = (acc ++ [flipAt s m]) ++ ((mvK ks s ks.length).drop (i + 1)).map (flipAt s) := by
      rw [List.drop_eq_getElem_cons hi, hm, List.map_cons, List.append_assoc]
      rfl
    rw [e2]
    refine Ev.step (fun k => ?_) e
    simp only [impl_searchKeyed_1.l0]
    rw [ints_len, if_pos (Int.ofNat_lt.2 hi), if_pos (Int.natCast_nonneg _), rd_ints hi, hm, ht, obind, if_pos (by rw [List.length_map]; omega), succ64 (by omega), List.map_append]
    rfl
theorem search1K {ks : List Stt} (hk : keysOk ks = true) (s : Stt) (hs : okN ks.length s) : Ev (fun k => impl_searchKeyed_1.f (ks.map tx) k (tx s)) ((stepK ks s).map tx) := by
  unfold impl_searchKeyed_1.f
  refine Ev.bind (keyedMoves hk hs) ?_
  have h := search1K_l0 hk hs (mvK ks s ks.length).length 0 [] (Nat.zero_add _) rfl
  rw [List.drop_zero, List.nil_append] at h
  exact h
def foundK (ks : List Stt) (s : Stt) : St Stt := found (stepK ks) (2 ^ ks.length) s
theorem search_runK {ks : List Stt} (hk : keysOk ks = true) (s : Stt) (hs : okN ks.length s) : Ev (fun k => impl_searchKeyed.f k (ks.map tx) (tx s)) ((foundK ks s).q.map tx, fB (foundK ks s), gB (foundK ks s)) := by
  unfold impl_searchKeyed.f
  exact searched_run (setupK hk) (fun k => impl_searchKeyed_1.f (ks.map tx) k) (search1K hk) s hs

/-! ### The reference's -/
def fz : Option Nat → Int
  | none => -1
  | some n => (n : Int)
theorem fz_neg {o : Option Nat} : fz o < 0 ↔ o = none := by
  cases o with
  | none => simp [fz]
  | some n => simp [fz]
def FarN (n : Nat) (F : List Int) (st : St Stt) : Prop := F.length = 2 ^ n ∧ ∀ s, okN n s → F.getD (num s) 0 = fz (st.far s)
theorem numN_lt {n : Nat} {s : Stt} (hs : okN n s) : num s < 2 ^ n := by
  have := num_lt s
  rwa [hs.1] at this
theorem numN_inj {n : Nat} {s t : Stt} (hs : okN n s) (ht : okN n t) (e : num s = num t) : s = t := num_inj hs.2 ht.2 (by rw [hs.1, ht.1]) e
theorem getD_set {l : List Int} {i j : Nat} {v : Int} (hi : i < l.length) : (l.set i v).getD j 0 = if i = j then v else l.getD j 0 := by
  rw [List.getD_eq_getElem?_getD, List.getElem?_set, List.getD_eq_getElem?_getD]
  by_cases e : i = j
  · rw [if_pos e, if_pos e, if_pos hi]; rfl
  · rw [if_neg e, if_neg e]
theorem FarN.set {n : Nat} {F : List Int} {st : St Stt} (h : FarN n F st) {t : Stt} (ht : okN n t) (v : Nat) (q : List Stt) (w : Stt → Int) : FarN n (F.set (num t) (v : Int)) ⟨q, Bfs.upd st.far t (some v), w⟩ := by
  refine ⟨by rw [List.length_set]; exact h.1, fun s hs => ?_⟩
  rw [getD_set (by rw [h.1]; exact numN_lt ht)]
  simp only [Bfs.upd]
  by_cases e : s = t
  · rw [if_pos e, if_pos (by rw [e])]
    rfl
  · rw [if_neg e, if_neg (fun h => e (numN_inj hs ht h.symm))]
    exact h.2 s hs
theorem rdDk (l : List Int) (i : Nat) : rd l (i : Int) = l.getD i 0 := rfl
theorem riNum {n : Nat} (hn : n ≤ 10) {s : Stt} (hs : okN n s) : Ev (fun k => spec_riNumber.f k (tx s)) ((num s : Nat) : Int) := by
  have h := riNumber (tx s) (by rw [tx_data, hs.1]; omega)
  rw [tx_data] at h
  exact h
theorem kf_l2 {ks : List Stt} (hk : keysOk ks = true) (s0 : Stt) (i : Nat) (u : Stt) (du : Nat) : ∀ (d j : Nat) (st : St Stt) (p : List Stt) (F W : List Int),
    j + d = (mvK ks u ks.length).length → InvIn (stepK ks) s0 st i u p → GoodS (okN ks.length) st → FarN ks.length F st → W.length = 2 ^ ks.length → Bfs.d st u = du →
    ∃ F' W', FarN ks.length F' (((stepK ks u).drop j).foldl (relax addC u) st) ∧ W'.length = 2 ^ ks.length ∧ ∀ R, Ev (fun k => spec_keFar.l1 k (ks.map tx) F' W' ((((stepK ks u).drop j).foldl (relax addC u) st).q.map tx) ((i + 1 : Nat) : Int)) R →
      Ev (fun k => spec_keFar.l2 k (ks.map tx) F W (st.q.map tx) (i : Int) ((num u : Nat) : Int) (ints (mvK ks u ks.length)) ((mvK ks u ks.length).length : Int) (j : Int)) R := by
  obtain ⟨⟨kl1, kl2⟩, k3⟩ := keys_parts hk
  have hp1 := pow10 kl2
  intro d
  induction d with
  | zero =>
    intro j st p F W hj I G hF hW hdu
    have hil : i < 1025 := by have h1 := G.len (setupK hk) I.nodup; have h2 := I.lt; omega
    have hd0 : (stepK ks u).drop j = [] := List.drop_eq_nil_of_le (by rw [step_lenK]; omega)
    rw [hd0]
    refine ⟨F, W, hF, hW, fun R h => ?_⟩
    refine Ev.step (fun k => ?_) h
    simp only [spec_keFar.l2]
    rw [if_neg (show ¬ (j : Int) < ((mvK ks u ks.length).length : Int) from fun h => by have := Int.ofNat_lt.1 h; omega), succ64 (by omega)]
    rfl
  | succ d ih =>
    intro j st p F W hj I G hF hW hdu
    have hjl : j < (mvK ks u ks.length).length := by omega
    obtain ⟨m, hm⟩ : ∃ m, (mvK ks u ks.length)[j] = m := ⟨_, rfl⟩
    have hmm := mvK_lt (hm ▸ List.getElem_mem hjl)
    obtain ⟨t, ht⟩ : ∃ t, flipAt u m = t := ⟨_, rfl⟩
    have hdr : (stepK ks u).drop j = t :: (stepK ks u).drop (j + 1) := by
      have hjs : j < (stepK ks u).length := by rw [step_lenK]; exact hjl
      rw [List.drop_eq_getElem_cons hjs, stepK_get hjl hjs, hm, ht]
    have htm : t ∈ stepK ks u := ht ▸ List.mem_map_of_mem (hm ▸ List.getElem_mem hjl)
    have huq : u ∈ st.q := List.mem_of_getElem? I.at_
    have hou := G.ok u huq
    have hot : okN ks.length t := ht ▸ okN_flip hou m
    have huf := (I.iff u).2 huq
    have hlen := G.len (setupK hk) I.nodup
    have hil : i < 1025 := by have h2 := I.lt; omega
    have hqlt : (i : Int) < ((st.q.map tx).length : Int) := by rw [List.length_map]; exact Int.ofNat_lt.2 I.lt
    have hq43 : (st.q.map tx).length < 8796093022208 := by rw [List.length_map]; omega
    have hj62 : j < 4611686018427387904 := by have := mvK_len ks u ks.length; omega
    have hdl := G.d huf
    have hdu62 : du < 4611686018427387904 := by rw [hdu] at hdl; omega
    have hqi : st.q[i]'I.lt = u := by have := I.at_; rw [List.getElem?_eq_getElem I.lt] at this; exact Option.some.inj this
    have hrd : rdOf ByteArray.empty (st.q.map tx) (i : Int) = tx u := by rw [rdM I.lt, hqi]
    have hmv : spec_riMove.f (tx u) ((m : Nat) : Int) = some (tx t) := by rw [← ht]; exact riMove u (by have := hou.1; omega) hou.2 m (by rw [hou.1]; exact hmm.1)
    have hnum := riNum kl2 hot
    have hnt : ((num t : Nat) : Int) < (F.length : Int) := by rw [hF.1]; exact Int.ofNat_lt.2 (numN_lt hot)
    have hnu : ((num u : Nat) : Int) < (F.length : Int) := by rw [hF.1]; exact Int.ofNat_lt.2 (numN_lt hou)
    have hwt : ((num t : Nat) : Int) < (W.length : Int) := by rw [hW]; exact Int.ofNat_lt.2 (numN_lt hot)
    have hwu : ((num u : Nat) : Int) < (W.length : Int) := by rw [hW]; exact Int.ofNat_lt.2 (numN_lt hou)
    have hsj : wrap64 ((j : Int) + 1) = ((j + 1 : Nat) : Int) := succ64 hj62
    have hsd : wrap64 ((du : Int) + 1) = ((du + 1 : Nat) : Int) := succ64 hdu62
    obtain ⟨v0, hv0⟩ := Option.isSome_iff_exists.1 huf
    have hvd : v0 = du := by rw [← hdu]; simp [Bfs.d, hv0]
    rw [hvd] at hv0
    have hrF : rd F ((num t : Nat) : Int) = fz (st.far t) := hF.2 t hot
    have hrU : rd F ((num u : Nat) : Int) = (du : Int) := by
      have h := hF.2 u hou
      rw [hv0] at h
      exact h
    have I2 := I.relaxed addC htm
    have G2 := G.relaxed addC huf hot
    have hJ : (j : Int) < ((mvK ks u ks.length).length : Int) := Int.ofNat_lt.2 hjl
    have hJ2 : (j : Int) < ((ints (mvK ks u ks.length)).length : Int) := by rw [ints_len]; exact hJ
    rw [hdr]
    simp only [List.foldl_cons]
    cases hft : st.far t with
    | none =>
      have hut : u ≠ t := fun e => by rw [e, hft] at huf; cases huf
      have hdu2 : Bfs.d (relax addC u st t) u = du := by rw [relax_new hft hut, d_upd_ne hut]; exact hdu
      rw [relax_new hft hut] at I2 G2 hdu2 ⊢
      have hF2 := FarN.set hF hot (Bfs.d st u + 1) (st.q ++ [t]) (Bfs.upd st.ways t (addC (st.ways t) (st.ways u)))
      have hy1 : rd (F.set (num t) ((du + 1 : Nat) : Int)) ((num t : Nat) : Int) = ((du + 1 : Nat) : Int) := by
        rw [rdDk, getD_set (by rw [hF.1]; exact numN_lt hot), if_pos rfl]
      have hy2 : rd (F.set (num t) ((du + 1 : Nat) : Int)) ((num u : Nat) : Int) = (du : Int) := by
        rw [rdDk, getD_set (by rw [hF.1]; exact numN_lt hot), if_neg (fun e => hut (numN_inj hou hot e.symm))]
        exact hrU
      obtain ⟨F', W', hF', hW', K⟩ := ih (j + 1) _ _ _ (W.set (num t) (wrap64 (rd W ((num t : Nat) : Int) + rd W ((num u : Nat) : Int)))) (ar_j hj) I2 G2 hF2 (by rw [List.length_set]; exact hW) hdu2
      refine ⟨F', W', hF', hW', fun R h => ?_⟩
      have e3 := K R h
      rw [List.map_append, hdu] at e3
      refine ev_num hnum e3 (fun k hk => ?_)
      simp only [spec_keFar.l2]
      rw [if_pos hJ, if_pos (Int.natCast_nonneg _), if_pos hJ2, if_pos (Int.natCast_nonneg _), if_pos hqlt, hrd, rd_ints hjl, hm, hmv, obind, hk, obind, if_pos (Int.natCast_nonneg _), if_pos hnt, hrF, hft, if_pos (by decide), if_pos (Int.natCast_nonneg _), if_pos hnu, obind, if_pos hq43, obind, hrU, hsd, Int.toNat_natCast, hy1, hy2, hsd, if_pos rfl, if_pos hwt, if_pos hwu, hsj]
      rfl
    | some v =>
      have hneg : ¬ fz (some v) < 0 := by rw [fz_neg]; simp
      have hF2 : FarN ks.length F (relax addC u st t) := ⟨hF.1, fun s hs => by rw [hF.2 s hs, (relax_q_far addC u st t).2, hft]; rfl⟩
      have hq2 : (relax addC u st t).q = st.q := by rw [(relax_q_far addC u st t).1, hft]; rfl
      have hdu2 : Bfs.d (relax addC u st t) u = du := by unfold Bfs.d; rw [(relax_q_far addC u st t).2, hft]; exact hdu
      by_cases hc : fz (some v) = ((du + 1 : Nat) : Int)
      · obtain ⟨F', W', hF', hW', K⟩ := ih (j + 1) _ _ _ (W.set (num t) (wrap64 (rd W ((num t : Nat) : Int) + rd W ((num u : Nat) : Int)))) (ar_j hj) I2 G2 hF2 (by rw [List.length_set]; exact hW) hdu2
        refine ⟨F', W', hF', hW', fun R h => ?_⟩
        have e3 := K R h
        rw [hq2] at e3
        refine ev_num hnum e3 (fun k hk => ?_)
        simp only [spec_keFar.l2]
        rw [if_pos hJ, if_pos (Int.natCast_nonneg _), if_pos hJ2, if_pos (Int.natCast_nonneg _), if_pos hqlt, hrd, rd_ints hjl, hm, hmv, obind, hk, obind, if_pos (Int.natCast_nonneg _), if_pos hnt, hrF, hft, if_neg hneg, if_pos (Int.natCast_nonneg _), if_pos hnu, hrU, hsd, if_pos hc, if_pos hwt, if_pos hwu, hsj, Int.toNat_natCast]
      · obtain ⟨F', W', hF', hW', K⟩ := ih (j + 1) _ _ _ W (ar_j hj) I2 G2 hF2 hW hdu2
        refine ⟨F', W', hF', hW', fun R h => ?_⟩
        have e3 := K R h
        rw [hq2] at e3
        refine ev_num hnum e3 (fun k hk => ?_)
        simp only [spec_keFar.l2]
        rw [if_pos hJ, if_pos (Int.natCast_nonneg _), if_pos hJ2, if_pos (Int.natCast_nonneg _), if_pos hqlt, hrd, rd_ints hjl, hm, hmv, obind, hk, obind, if_pos (Int.natCast_nonneg _), if_pos hnt, hrF, hft, if_neg hneg, if_pos (Int.natCast_nonneg _), if_pos hnu, hrU, hsd, if_neg hc, hsj]
theorem kf_l1 {ks : List Stt} (hk : keysOk ks = true) (s0 : Stt) : ∀ (m i : Nat) (st : St Stt) (F W : List Int), Inv (stepK ks) s0 st i → GoodS (okN ks.length) st → FarN ks.length F st → W.length = 2 ^ ks.length → 2 ^ ks.length ≤ i + m →
    ∃ F' W', FarN ks.length F' (run addC (stepK ks) m i st) ∧ Ev (fun k => spec_keFar.l1 k (ks.map tx) F W (st.q.map tx) (i : Int)) (F', W') := by
  obtain ⟨⟨kl1, kl2⟩, k3⟩ := keys_parts hk
  have hp1 := pow10 kl2
  intro m
  induction m with
  | zero =>
    intro i st F W I G hF hW hN
    have h1 := G.len (setupK hk) I.nodup
    refine ⟨F, W, hF, Ev.step (f := fun _ => some (F, W)) (fun k => ?_) (Ev.now _)⟩
    simp only [spec_keFar.l1]
    rw [List.length_map, if_neg (fun h => by have := Int.ofNat_lt.1 h; omega)]
  | succ m ih =>
    intro i st F W I G hF hW hN
    by_cases hi : i < st.q.length
    · obtain ⟨u, hu⟩ : ∃ u, st.q[i] = u := ⟨_, rfl⟩
      have hin := I.enter hi
      rw [hu] at hin
      have hou : okN ks.length u := hu ▸ G.ok _ (List.getElem_mem hi)
      have I2 := I.process addC hi
      rw [hu] at I2
      have G2 : GoodS (okN ks.length) (process addC (stepK ks) st u) := GoodS.foldl addC (stepK ks u) st [] hin G (fun t ht => ht) ((setupK hk).next u hou)
      obtain ⟨F1, W1, hF1, hW1, K⟩ := kf_l2 hk s0 i u (Bfs.d st u) (mvK ks u ks.length).length 0 st [] F W (Nat.zero_add _) hin G hF hW rfl
      rw [List.drop_zero] at hF1 K
      obtain ⟨F', W', hF', e⟩ := ih (i + 1) _ F1 W1 I2 G2 hF1 hW1 (by omega)
      have e2 := K _ e
      have hrun : run addC (stepK ks) (m + 1) i st = run addC (stepK ks) m (i + 1) (process addC (stepK ks) st u) := by
        conv => lhs; unfold run
        rw [dif_pos hi, hu]
      rw [hrun]
      refine ⟨F', W', hF', ?_⟩
      obtain ⟨K1, g1⟩ := riNum kl2 hou
      obtain ⟨K2, g2⟩ := keMoves hk hou
      obtain ⟨K3, g3⟩ := e2
      have g1 : ∀ k, K1 ≤ k → spec_riNumber.f k (tx u) = some ((num u : Nat) : Int) := g1
      have g2 : ∀ k, K2 ≤ k → spec_keMoves.f k (ks.map tx) (tx u) = some (ints (mvK ks u ks.length)) := g2
      refine ⟨max K1 (max K2 K3) + 1, fun n hn => ?_⟩
      obtain ⟨k, rfl, k1, k2, k3⟩ := max3 hn
      simp only [spec_keFar.l1]
      rw [if_pos (show (i : Int) < ((st.q.map tx).length : Int) by rw [List.length_map]; exact Int.ofNat_lt.2 hi), if_pos (Int.natCast_nonneg _), rdM hi, hu, g1 k k1, obind, g2 k k2, obind, ints_len]
      exact g3 k k3
    · have hrun : run addC (stepK ks) (m + 1) i st = st := by
        conv => lhs; unfold run
        rw [dif_neg hi]
      rw [hrun]
      refine ⟨F, W, hF, Ev.step (f := fun _ => some (F, W)) (fun k => ?_) (Ev.now _)⟩
      simp only [spec_keFar.l1]
      rw [List.length_map, if_neg (fun h => hi (Int.ofNat_lt.1 h))]
theorem kf_l0 {ks : List Stt} (hk : keysOk ks = true) {s : Stt} (hs : okN ks.length s) (R : List Int × List Int)
    (h : Ev (fun k => spec_keFar.l1 k (ks.map tx) ((List.replicate (2 ^ ks.length) (-1 : Int)).set (num s) 0) ((List.replicate (2 ^ ks.length) (0 : Int)).set (num s) 1) [tx s] (0 : Int)) R) : ∀ (d i : Nat) (acc : List Int), i + d = 2 ^ ks.length → acc.length = 2 ^ ks.length → acc.take i = List.replicate i (-1) →
    Ev (fun k => spec_keFar.l0 k (ks.map tx) (tx s) acc (List.replicate (2 ^ ks.length) (0 : Int)) ((2 ^ ks.length : Nat) : Int) (i : Int)) R := by
  obtain ⟨⟨kl1, kl2⟩, k3⟩ := keys_parts hk
  have hp := pow10 kl2
  have hlt := numN_lt hs
  generalize 2 ^ ks.length = N at *
  intro d
  induction d with
  | zero =>
    intro i acc hi hl ht
    obtain rfl : i = N := by omega
    rw [List.take_of_length_le (by omega)] at ht
    subst ht
    refine ev_num (riNum kl2 hs) h (fun k hk => ?_)
    simp only [spec_keFar.l0]
    rw [if_neg (Int.lt_irrefl _), hk, obind, if_pos (Int.natCast_nonneg _), if_pos (by rw [List.length_replicate]; exact Int.ofNat_lt.2 hlt), if_pos (by rw [List.length_replicate]; exact Int.ofNat_lt.2 hlt), Int.toNat_natCast]
  | succ d ih =>
    intro i acc hi hl ht
    have hil : i < acc.length := by omega
    refine Ev.step (fun k => ?_) (ih (i + 1) (acc.set i (-1)) (by omega) (by rw [List.length_set]; exact hl) ?_)
    · simp only [spec_keFar.l0]
      rw [if_pos (Int.ofNat_lt.2 (by omega)), if_pos (Int.natCast_nonneg _), if_pos (Int.ofNat_lt.2 hil), Int.toNat_natCast, succ64 (by omega)]
    · rw [List.take_succ_eq_append_getElem (by rw [List.length_set]; exact hil), List.take_set_of_le (Nat.le_refl i), ht, List.getElem_set_self, List.replicate_succ']
/-- What the reference's search finds. -/
theorem keFar {ks : List Stt} (hk : keysOk ks = true) {s : Stt} (hs : okN ks.length s) : ∃ F W, FarN ks.length F (foundK ks s) ∧ Ev (fun k => spec_keFar.f k (ks.map tx) (tx s)) (F, W) := by
  obtain ⟨⟨kl1, kl2⟩, k3⟩ := keys_parts hk
  have hp := pow10 kl2
  have hlt := numN_lt hs
  have hF0 : FarN ks.length ((List.replicate (2 ^ ks.length) (-1 : Int)).set (num s) 0) (init s) := by
    refine ⟨by rw [List.length_set, List.length_replicate], fun t ht => ?_⟩
    rw [getD_set (by rw [List.length_replicate]; exact hlt)]
    by_cases e : t = s
    · rw [if_pos (by rw [e])]
      simp [init, e, fz]
    · rw [if_neg (fun h => e (numN_inj ht hs h.symm))]
      have hl := numN_lt ht
      rw [List.getD_eq_getElem?_getD, List.getElem?_replicate, if_pos hl]
      simp [init, e, fz]
  obtain ⟨F, W, hF, e⟩ := kf_l1 hk s (2 ^ ks.length) 0 (init s) _ ((List.replicate (2 ^ ks.length) (0 : Int)).set (num s) 1) (Inv.start _ _) (GoodS.start hs) hF0 (by rw [List.length_set, List.length_replicate]) (by omega)
  refine ⟨F, W, hF, ?_⟩
  have e0 := kf_l0 hk hs _ e (2 ^ ks.length) 0 (List.replicate (2 ^ ks.length) 0) (Nat.zero_add _) (List.length_replicate ..) rfl
  unfold spec_keFar.f
  have hsh : shl .i64 1 ((tx s).size : Int) = ((2 ^ ks.length : Nat) : Int) := by rw [tx_size, hs.1]; exact shl_one ks.length (by omega)
  refine Ev.congr (fun k => ?_) e0
  rw [hsh, if_pos (Int.natCast_nonneg _), Int.toNat_natCast, if_pos (by omega), obind, List.length_replicate]
  rfl
/-! ### Moves go back -/
theorem fits_flip {ks : List Stt} (hk : keysOk ks = true) {s : Stt} {k : Nat} (hkl : k < ks.length) (h : fits (ks.getD k []) s = true) : fits (ks.getD k []) (flipAt s k) = true := by
  obtain ⟨_, k3⟩ := keys_parts hk
  obtain ⟨a1, a2, a3⟩ := k3 k hkl
  rw [getD_get hkl] at h ⊢
  unfold fits at h ⊢
  rw [List.all_eq_true] at h ⊢
  intro i hi
  have h2 := h i hi
  unfold fitAt at h2 ⊢
  by_cases e : i = k
  · subst e
    have : (ks[i]).getD i 0 = 63 := by rw [List.getD_eq_getElem?_getD, a2]; rfl
    rw [this]
    rfl
  · have e2 : (flipAt s k).getD i 0 = s.getD i 0 := by rw [List.getD_eq_getElem?_getD, flipAt_get, if_neg (fun h => e h.symm), ← List.getD_eq_getElem?_getD]
    rw [e2]
    exact h2
theorem stepK_back {ks : List Stt} (hk : keysOk ks = true) {s t : Stt} (hs : okN ks.length s) (h : t ∈ stepK ks s) : s ∈ stepK ks t := by
  obtain ⟨k, hm, rfl⟩ := List.mem_map.1 h
  obtain ⟨hkl, hf⟩ := mvK_lt hm
  have h2 : k ∈ mvK ks (flipAt s k) ks.length := by
    unfold mvK
    rw [List.mem_filter, List.mem_range]
    exact ⟨hkl, fits_flip hk hkl hf⟩
  have := List.mem_map_of_mem (f := flipAt (flipAt s k)) h2
  rw [flipAt_flipAt hs.2] at this
  exact this
theorem found_sym {ks : List Stt} (hk : keysOk ks = true) {a b : Stt} (ha : okN ks.length a) (hb : okN ks.length b) : (foundK ks b).far a = (foundK ks a).far b :=
  (Final.sym (P := okN ks.length) (fun x y hx hy => (setupK hk).next x hx y hy) (fun x y hx hy => stepK_back hk hx hy) ha hb (found_good (setupK hk) ha).1.final (found_good (setupK hk) hb).1.final).symm
theorem ok_smallK {n : Nat} (hn : n ≤ 10) {s : Stt} (hs : okN n s) : (tx s).size ≤ maxLen := by
  rw [tx_size, hs.1]
  exact sz_le (by omega)
end Go.Proofs.YtbmbehkdidlolaaGreatDoor.Lem
namespace Go.Proofs.YtbmbehkdidlolaaGreatDoor.Lem
open Go.RowKit Go.Proofs.YtbmbehkdidlolaaGreatDoor.PT Go.Proofs.YtbmbehkdidlolaaGreatDoorW.PrintWords Go.Proofs.YtbmbehkdidlolaaGreatDoorW.PrintLast Go.Proofs.YtbmbehkdidlolaaGreatDoorW.PrintMore Go.Proofs.YtbmbehkdidlolaaGreatDoor.Ring Go.Proofs.YtbmbehkdidlolaaGreatDoor.Bfs
set_option linter.unusedVariables false
set_option linter.unusedSimpArgs false

theorem okc_or {c : UInt8} (h : okc c = true) : c = 48 ∨ c = 49 := by
  simpa [okc] using h
def flK (l : List Stt) : List Stt := l.flatMap (fun s => [s ++ [48], s ++ [49]])
theorem flK_len : ∀ l : List Stt, (flK l).length = 2 * l.length
  | [] => rfl
  | a :: l => by
    have := flK_len l
    unfold flK at this ⊢
    rw [List.flatMap_cons, List.length_append, this, List.length_cons]
    simp
    omega
theorem textStates_l1 (cur : List Stt) (hc : cur.length ≤ 1024) (hs : ∀ s ∈ cur, s.length ≤ 10) (x8 x9 : Int) (R : List ByteArray)
    (H : Ev (fun k => impl_textStates.l0 k ((flK cur).map tx) x8 (wrap64 (x9 + 1))) R) : ∀ d i, i + d = cur.length →
    Ev (fun k => impl_textStates.l1 k ((flK (cur.take i)).map tx) x8 x9 (cur.map tx) ((cur.map tx).length : Int) (i : Int)) R := by
  intro d
  induction d with
  | zero =>
    intro i hi
    obtain rfl : i = cur.length := by omega
    rw [List.take_length]
    refine Ev.step (fun k => ?_) H
    simp only [impl_textStates.l1]
    rw [List.length_map, if_neg (Int.lt_irrefl _)]
  | succ d ih =>
    intro i hi
    have hil : i < cur.length := by omega
    have hil2 : i < (cur.map tx).length := by rw [List.length_map]; exact hil
    have h10 := hs _ (List.getElem_mem hil)
    have hfl := flK_len (cur.take i)
    rw [List.length_take] at hfl
    have e1 : (flK (cur.take (i + 1))).map tx = (flK (cur.take i)).map tx ++ [tx cur[i] ++ (⟨#[48]⟩ : ByteArray), tx cur[i] ++ (⟨#[49]⟩ : ByteArray)] := by
      have a1 : tx cur[i] ++ (⟨#[48]⟩ : ByteArray) = tx (cur[i] ++ [48]) := app_tx _ [48]
      have a2 : tx cur[i] ++ (⟨#[49]⟩ : ByteArray) = tx (cur[i] ++ [49]) := app_tx _ [49]
      rw [a1, a2, List.take_succ_eq_append_getElem hil]
      unfold flK
      rw [List.flatMap_append, List.map_append]
      rfl
    have h := ih (i + 1) (by omega)
    rw [e1] at h
    refine Ev.step (fun k => ?_) h
    simp only [impl_textStates.l1]
    rw [if_pos (Int.ofNat_lt.2 hil2), if_pos (Int.natCast_nonneg _), if_pos (Int.ofNat_lt.2 hil2), rdK hil, if_pos (show (tx cur[i]).size + 1 ≤ 9223372036854775807 by rw [tx_size]; omega), obind,
      if_pos (show ((flK (cur.take i)).map tx).length + ([tx cur[i] ++ (⟨#[48]⟩ : ByteArray), tx cur[i] ++ (⟨#[49]⟩ : ByteArray)] : List ByteArray).length < 8796093022208 by rw [List.length_map]; simp only [List.length_cons, List.length_nil]; omega), succ64 (by omega)]
theorem textStates (n : Nat) (hn : n ≤ 10) : Ev (fun k => impl_textStates.f k (n : Int)) ((tsK n).map tx) := by
  have go : ∀ d m, m + d = n → Ev (fun k => impl_textStates.l0 k ((tsK m).map tx) (n : Int) (m : Int)) ((tsK n).map tx) := by
    intro d
    induction d with
    | zero =>
      intro m hm
      obtain rfl : m = n := by omega
      refine Ev.step (f := fun _ => some ((tsK m).map tx)) (fun k => ?_) (Ev.now _)
      simp only [impl_textStates.l0]
      rw [if_neg (Int.lt_irrefl _)]
    | succ d ih =>
      intro m hm
      have hl := tsK_length m
      have h10 : (2 : Nat) ^ m ≤ 2 ^ 10 := Nat.pow_le_pow_right (by decide) (by omega)
      have h1024 : (2 : Nat) ^ 10 = 1024 := by decide
      have h := textStates_l1 (tsK m) (by omega) (fun s h => by rw [(tsK_ok m s h).1]; omega) (n : Int) (m : Int) ((tsK n).map tx) (by
        rw [succ64 (by omega)]
        exact ih (m + 1) (by omega)) (tsK m).length 0 (Nat.zero_add _)
      refine Ev.step (fun k => ?_) h
      simp only [impl_textStates.l0]
      rw [if_pos (Int.ofNat_lt.2 (show m < n by omega))]
      rfl
  unfold impl_textStates.f
  exact go n 0 (Nat.zero_add _)
theorem tsK_mem : ∀ (n : Nat) (s : Stt), okN n s → s ∈ tsK n
  | 0, s, ⟨h1, _⟩ => by rw [List.length_eq_zero_iff.1 h1]; simp [tsK]
  | n + 1, s, ⟨h1, h2⟩ => by
    have hn : n < s.length := by omega
    have e : s = s.take n ++ [s[n]] := by rw [← List.take_succ_eq_append_getElem hn, List.take_of_length_le (by omega)]
    have hc := okc_or (List.all_eq_true.1 h2 _ (List.getElem_mem hn))
    have hm := tsK_mem n (s.take n) ⟨by rw [List.length_take]; omega, List.all_eq_true.2 (fun x hx => List.all_eq_true.1 h2 x (List.mem_of_mem_take hx))⟩
    rw [e, tsK, List.mem_flatMap]
    refine ⟨s.take n, hm, ?_⟩
    rcases hc with h | h
    · rw [h]; simp
    · rw [h]; simp
theorem tsK_nodup : ∀ n, (tsK n).Nodup
  | 0 => by simp [tsK]
  | n + 1 => by
    unfold List.Nodup
    rw [tsK, List.pairwise_flatMap]
    refine ⟨fun a _ => ?_, ?_⟩
    · simp
    · refine List.Pairwise.imp (fun {a b} hab x hx y hy e => hab ?_) (tsK_nodup n)
      simp only [List.mem_cons, List.not_mem_nil, or_false] at hx hy
      rcases hx with rfl | rfl <;> rcases hy with rfl | rfl <;> exact (List.append_inj' e rfl).1
end Go.Proofs.YtbmbehkdidlolaaGreatDoor.Lem
namespace Go.Proofs.YtbmbehkdidlolaaGreatDoor.Bfs
set_option linter.unusedSectionVars false
variable {α : Type}
theorem Path.add {step : α → List α} {a b c : α} {n m : Nat} (p : Path step a n b) (q : Path step b m c) : Path step a (n + m) c := by
  induction q with
  | nil => exact p
  | snoc _ hc ih => exact .snoc ih hc
end Go.Proofs.YtbmbehkdidlolaaGreatDoor.Bfs
namespace Go.Proofs.YtbmbehkdidlolaaGreatDoor.Lem
open Go.RowKit Go.Proofs.YtbmbehkdidlolaaGreatDoor.PT Go.Proofs.YtbmbehkdidlolaaGreatDoorW.PrintWords Go.Proofs.YtbmbehkdidlolaaGreatDoorW.PrintLast Go.Proofs.YtbmbehkdidlolaaGreatDoorW.PrintMore Go.Proofs.YtbmbehkdidlolaaGreatDoor.Ring Go.Proofs.YtbmbehkdidlolaaGreatDoor.Bfs
set_option linter.unusedVariables false
set_option linter.unusedSimpArgs false

/-! ### The number of classes, in any order -/
/-- How many of a list stand in no earlier one's class. -/
def cnt (cls : Stt → Stt → Bool) : List Stt → (Stt → Bool) → Nat
  | [], _ => 0
  | s :: l, f => if f s = true then cnt cls l f else cnt cls l (fun t => f t || cls s t) + 1
theorem cnt_le (cls : Stt → Stt → Bool) : ∀ (l : List Stt) (f : Stt → Bool), cnt cls l f ≤ l.length
  | [], _ => Nat.le_refl _
  | s :: l, f => by
    unfold cnt
    split
    · exact Nat.le_succ_of_le (cnt_le cls l f)
    · exact Nat.succ_le_succ (cnt_le cls l _)
theorem cnt_swap {cls : Stt → Stt → Bool} {x y : Stt} (l : List Stt) (f : Stt → Bool) (hs : cls x y = cls y x) (ht : cls x y = true → ∀ t, cls x t = cls y t) : cnt cls (y :: x :: l) f = cnt cls (x :: y :: l) f := by
  cases hx : f x with
  | true =>
    cases hy : f y with
    | true => simp [cnt, hx, hy]
    | false => simp [cnt, hx, hy]
  | false =>
    cases hy : f y with
    | true => simp [cnt, hx, hy]
    | false =>
      cases hc : cls x y with
      | true =>
        have hc2 : cls y x = true := hs ▸ hc
        have e : (fun t => f t || cls x t) = (fun t => f t || cls y t) := by funext t; rw [ht hc t]
        simp [cnt, hx, hy, hc, hc2, e]
      | false =>
        have hc2 : cls y x = false := hs ▸ hc
        have e : (fun t => (f t || cls y t) || cls x t) = (fun t => (f t || cls x t) || cls y t) := by funext t; rw [Bool.or_assoc, Bool.or_comm (cls y t), ← Bool.or_assoc]
        simp [cnt, hx, hy, hc, hc2, e]
theorem cnt_perm {cls : Stt → Stt → Bool} {ok : Stt → Prop} (hs : ∀ x y, ok x → ok y → cls x y = cls y x) (ht : ∀ x y, ok x → ok y → cls x y = true → ∀ t, cls x t = cls y t) {l m : List Stt} (h : l.Perm m) :
    (∀ s ∈ l, ok s) → ∀ f, cnt cls l f = cnt cls m f := by
  induction h with
  | nil => intro _ f; rfl
  | cons x _ ih =>
    intro hl f
    have hl2 := fun s hs => hl s (List.mem_cons_of_mem _ hs)
    unfold cnt
    rw [ih hl2 f, ih hl2 (fun t => f t || cls x t)]
  | swap x y l =>
    intro hl f
    have h1 := hl x (by simp)
    have h2 := hl y (by simp)
    exact cnt_swap l f (hs x y h1 h2) (ht x y h1 h2)
  | trans h1 _ ih1 ih2 =>
    intro hl f
    rw [ih1 hl f, ih2 (fun s hs => hl s (h1.mem_iff.2 hs)) f]

/-! ### What is reached -/
def clsK (ks : List Stt) (s t : Stt) : Bool := ((foundK ks s).far t).isSome
theorem clsK_sym {ks : List Stt} (hk : keysOk ks = true) (x y : Stt) (hx : okN ks.length x) (hy : okN ks.length y) : clsK ks x y = clsK ks y x := by
  unfold clsK
  rw [found_sym hk hx hy]
theorem clsK_final {ks : List Stt} (hk : keysOk ks = true) {x : Stt} (hx : okN ks.length x) : Final (stepK ks) x (foundK ks x) := (found_good (setupK hk) hx).1.final
theorem clsK_imp {ks : List Stt} (hk : keysOk ks = true) {x y t : Stt} (hx : okN ks.length x) (hy : okN ks.length y) (h : clsK ks y x = true) (h2 : clsK ks x t = true) : clsK ks y t = true := by
  unfold clsK at h h2 ⊢
  obtain ⟨n, hn⟩ := Option.isSome_iff_exists.1 h
  obtain ⟨m, hm⟩ := Option.isSome_iff_exists.1 h2
  obtain ⟨v, hv, _⟩ := (clsK_final hk hy).least t _ (((clsK_final hk hy).path x n hn).add ((clsK_final hk hx).path t m hm))
  rw [hv]
  rfl
theorem clsK_trans {ks : List Stt} (hk : keysOk ks = true) (x y : Stt) (hx : okN ks.length x) (hy : okN ks.length y) (h : clsK ks x y = true) (t : Stt) : clsK ks x t = clsK ks y t := by
  have h2 : clsK ks y x = true := by rw [← clsK_sym hk x y hx hy]; exact h
  cases e : clsK ks x t with
  | true => exact (clsK_imp hk hx hy h2 e).symm
  | false =>
    cases e2 : clsK ks y t with
    | false => rfl
    | true =>
      have := clsK_imp hk hy hx h e2
      rw [e] at this
      cases this
/-- The number of parts. -/
def partsK (ks : List Stt) : Nat := cnt (clsK ks) (tsK ks.length) (fun _ => false)
theorem stOf_okP (n m : Nat) : okN n (stOf n m) := ⟨stOf_length n m, stOf_ok n m⟩
theorem states_perm (n : Nat) : ((List.range' 0 (2 ^ n)).map (stOf n)).Perm (tsK n) := by
  rw [List.perm_ext_iff_of_nodup ?_ (tsK_nodup n)]
  · intro s
    constructor
    · intro h
      obtain ⟨m, _, rfl⟩ := List.mem_map.1 h
      exact tsK_mem n _ (stOf_okP n m)
    · intro h
      have ho := tsK_ok n s h
      refine List.mem_map.2 ⟨num s, ?_, ?_⟩
      · rw [List.mem_range'_1]
        exact ⟨Nat.zero_le _, by have := numN_lt ho; omega⟩
      · have := stOf_num s ho.2
        rwa [ho.1] at this
  · unfold List.Nodup
    rw [List.pairwise_map]
    refine List.Pairwise.imp_of_mem (fun {a b} ha hb hab e => hab ?_) List.nodup_range'
    rw [List.mem_range'_1] at ha hb
    rw [← num_stOf n a (by omega), ← num_stOf n b (by omega), e]
theorem parts_num {ks : List Stt} (hk : keysOk ks = true) : cnt (clsK ks) ((List.range' 0 (2 ^ ks.length)).map (stOf ks.length)) (fun _ => false) = partsK ks :=
  cnt_perm (ok := okN ks.length) (clsK_sym hk) (clsK_trans hk) (states_perm ks.length) (fun s hs => tsK_ok _ s ((states_perm ks.length).mem_iff.1 hs)) _

/-! ### The reference's count -/
theorem rdB (l : List Bool) (i : Nat) : rdOf false l (i : Int) = l.getD i false := rfl
theorem getD_setB {l : List Bool} {i j : Nat} {v : Bool} (hi : i < l.length) : (l.set i v).getD j false = if i = j then v else l.getD j false := by
  rw [List.getD_eq_getElem?_getD, List.getElem?_set, List.getD_eq_getElem?_getD]
  by_cases e : i = j
  · rw [if_pos e, if_pos e, if_pos hi]; rfl
  · rw [if_neg e, if_neg e]
theorem kp_l1 (L : List ByteArray) (N : Nat) (hN : N ≤ 1048576) (F : List Int) (hF : F.length = N) (B : List Bool) (x4 x15 x16 R : Int)
    (H : ∀ G : List Bool, G.length = N → (∀ i, i < N → G.getD i false = (B.getD i false || decide (F.getD i 0 ≥ 0))) → Ev (fun k => spec_keParts.l0 k L G x4 x15 (wrap64 (x16 + 1))) R) : ∀ d j (acc : List Bool), j + d = N → acc.length = N →
    (∀ i, i < j → acc.getD i false = (B.getD i false || decide (F.getD i 0 ≥ 0))) → (∀ i, j ≤ i → acc.getD i false = B.getD i false) →
    Ev (fun k => spec_keParts.l1 k L acc x4 x15 x16 F (F.length : Int) (j : Int)) R := by
  intro d
  induction d with
  | zero =>
    intro j acc hj hl h1 h2
    refine Ev.step (fun k => ?_) (H acc hl (fun i hi => h1 i (by omega)))
    simp only [spec_keParts.l1]
    rw [hF, if_neg (show ¬ (j : Int) < (N : Int) from fun h => by have := Int.ofNat_lt.1 h; omega)]
  | succ d ih =>
    intro j acc hj hl h1 h2
    have hjl : j < acc.length := by omega
    have hjF : j < F.length := by omega
    have hb := h2 j (Nat.le_refl _)
    have key : ∀ v : Bool, v = (B.getD j false || decide (F.getD j 0 ≥ 0)) → Ev (fun k => spec_keParts.l1 k L (acc.set j v) x4 x15 x16 F (F.length : Int) ((j + 1 : Nat) : Int)) R := by
      intro v hv
      refine ih (j + 1) (acc.set j v) (by omega) (by rw [List.length_set]; exact hl) (fun i hi => ?_) (fun i hi => ?_)
      · rw [getD_setB hjl]
        by_cases e : j = i
        · rw [if_pos e, ← e, hv]
        · rw [if_neg e]
          exact h1 i (by omega)
      · rw [getD_setB hjl, if_neg (by omega)]
        exact h2 i (by omega)
    cases hc : acc.getD j false with
    | true =>
      refine Ev.step (fun k => ?_) (key true (by rw [← hb, hc]; rfl))
      simp only [spec_keParts.l1]
      rw [if_pos (Int.ofNat_lt.2 hjF), if_pos (Int.natCast_nonneg _), if_pos (Int.ofNat_lt.2 hjF), if_pos (Int.ofNat_lt.2 hjl), rdB, hc, if_pos rfl, succ64 (by omega), Int.toNat_natCast]
    | false =>
      refine Ev.step (fun k => ?_) (key (decide (F.getD j 0 ≥ 0)) (by rw [← hb, hc, Bool.false_or]))
      simp only [spec_keParts.l1]
      rw [if_pos (Int.ofNat_lt.2 hjF), if_pos (Int.natCast_nonneg _), if_pos (Int.ofNat_lt.2 hjF), if_pos (Int.ofNat_lt.2 hjl), rdB, hc, if_neg Bool.false_ne_true, succ64 (by omega), Int.toNat_natCast, rdDk]
theorem fz_some (o : Option Nat) : decide (fz o ≥ 0) = o.isSome := by
  cases o with
  | none => rfl
  | some v => exact decide_eq_true (show (v : Int) ≥ 0 from Int.natCast_nonneg v)
theorem kp_l0 {ks : List Stt} (hk : keysOk ks = true) : ∀ d i (acc : List Bool) (f : Stt → Bool) (c : Nat), i + d = 2 ^ ks.length → acc.length = 2 ^ ks.length → c ≤ i → (∀ s, okN ks.length s → acc.getD (num s) false = f s) →
    Ev (fun k => spec_keParts.l0 k (ks.map tx) acc (c : Int) ((2 ^ ks.length : Nat) : Int) (i : Int)) ((c + cnt (clsK ks) ((List.range' i d).map (stOf ks.length)) f : Nat) : Int) := by
  obtain ⟨⟨kl1, kl2⟩, k3⟩ := keys_parts hk
  have hp := pow10 kl2
  intro d
  induction d with
  | zero =>
    intro i acc f c hi hl hc hf
    refine Ev.step (f := fun _ => some (c : Int)) (fun k => ?_) (Ev.now _)
    simp only [spec_keParts.l0]
    rw [if_neg (fun h => by have := Int.ofNat_lt.1 h; omega)]
  | succ d ih =>
    intro i acc f c hi hl hc hf
    have hil : i < 2 ^ ks.length := by omega
    have ho := stOf_okP ks.length i
    have hn := num_stOf ks.length i hil
    have hv := hf _ ho
    rw [hn] at hv
    rw [List.range'_succ, List.map_cons]
    unfold cnt
    by_cases hs : f (stOf ks.length i) = true
    · rw [if_pos hs]
      rw [hs] at hv
      refine Ev.step (fun k => ?_) (ih (i + 1) acc f c (by omega) hl (by omega) hf)
      simp only [spec_keParts.l0]
      rw [if_pos (Int.ofNat_lt.2 hil), if_pos (Int.natCast_nonneg _), if_pos (show (i : Int) < (acc.length : Int) from Int.ofNat_lt.2 (by omega)), rdB, hv, if_pos rfl, succ64 (by omega)]
    · rw [if_neg hs]
      rw [Bool.eq_false_iff.2 hs] at hv
      have hr : Ev (fun k => spec_riState.f k (ks.length : Int) (i : Int)) (tx (stOf ks.length i)) := riState ks.length i (by omega) (by omega)
      obtain ⟨F, W, hF, e⟩ := keFar hk ho
      have h1 := kp_l1 (ks.map tx) (2 ^ ks.length) (by omega) F hF.1 acc ((c + 1 : Nat) : Int) ((2 ^ ks.length : Nat) : Int) (i : Int) _ (fun G hG hGv => by
        rw [succ64 (by omega)]
        refine ih (i + 1) G (fun t => f t || clsK ks (stOf ks.length i) t) (c + 1) (by omega) hG (by omega) (fun s hs => ?_)
        rw [hGv (num s) (numN_lt hs), hf s hs, hF.2 s hs, fz_some]
        rfl) (2 ^ ks.length) 0 acc (Nat.zero_add _) hl (fun i hi => absurd hi (Nat.not_lt_zero i)) (fun _ _ => rfl)
      rw [show c + (cnt (clsK ks) ((List.range' (i + 1) d).map (stOf ks.length)) (fun t => f t || clsK ks (stOf ks.length i) t) + 1) = c + 1 + cnt (clsK ks) ((List.range' (i + 1) d).map (stOf ks.length)) (fun t => f t || clsK ks (stOf ks.length i) t) by omega]
      refine Ev.step (f := fun k => (spec_riState.f k (ks.length : Int) (i : Int)).bind fun t152 => ((spec_keFar.f k (ks.map tx) t152).bind fun bt153 => (spec_keParts.l1 k (ks.map tx) acc ((c + 1 : Nat) : Int) ((2 ^ ks.length : Nat) : Int) (i : Int) bt153.1 (bt153.1.length : Int) 0))) (fun k => ?_) (Ev.bind hr (Ev.bind e h1))
      simp only [spec_keParts.l0]
      rw [if_pos (Int.ofNat_lt.2 hil), if_pos (Int.natCast_nonneg _), if_pos (show (i : Int) < (acc.length : Int) from Int.ofNat_lt.2 (by omega)), rdB, hv, if_neg Bool.false_ne_true, List.length_map, succ64 (n := c) (by omega)]
theorem keParts {ks : List Stt} (hk : keysOk ks = true) : Ev (fun k => spec_keParts.f k (ks.map tx)) ((partsK ks : Nat) : Int) := by
  obtain ⟨⟨kl1, kl2⟩, k3⟩ := keys_parts hk
  have hp := pow10 kl2
  have h := kp_l0 hk (2 ^ ks.length) 0 (List.replicate (2 ^ ks.length) false) (fun _ => false) 0 (Nat.zero_add _) (List.length_replicate ..) (Nat.le_refl _) (fun s hs => by
    rw [List.getD_eq_getElem?_getD, List.getElem?_replicate, if_pos (numN_lt hs)]
    rfl)
  rw [parts_num hk, Nat.zero_add] at h
  unfold spec_keParts.f
  refine Ev.congr (fun k => ?_) h
  rw [List.length_map, shl_one ks.length (by omega), if_pos (Int.natCast_nonneg _), Int.toNat_natCast, if_pos (by omega), obind, List.length_replicate]
  rfl

/-! ### The program's count -/
/-- What is seen, as a function of texts. -/
def mB (g : Stt → Bool) : ByteArray → Bool := fun b => g b.data.toList
theorem mB_tx (g : Stt → Bool) (s : Stt) : mB g (tx s) = g s := by unfold mB; rw [tx_data]
theorem mB_upd (g : Stt → Bool) (t : Stt) : MapB.upd (mB g) (tx t) = mB (fun s => if s = t then true else g s) := by
  funext b
  simp only [MapB.upd, mB, toL_eq]
theorem po_l1 (srch : Nat → ByteArray → Option (List ByteArray)) (ss : List ByteArray) (q : List Stt) (hq : q.length ≤ 1024) (hs : ∀ s ∈ q, (tx s).size ≤ maxLen) (n i R : Int) : ∀ d j (c : Nat) (g : Stt → Bool), j + d = q.length → c + d ≤ 2000000 →
    Ev (fun k => impl_partsOf.l0 srch ss k (mB (fun s => g s || (q.drop j).contains s)) (c + d) n (wrap64 (i + 1))) R →
    Ev (fun k => impl_partsOf.l1 srch ss k (q.map tx) (mB g) c n i (j : Int)) R := by
  intro d
  induction d with
  | zero =>
    intro j c g hj hc H
    have e : (fun s => g s || (q.drop j).contains s) = g := by
      funext s
      rw [List.drop_eq_nil_of_le (by omega)]
      simp
    rw [e] at H
    refine Ev.step (fun k => ?_) H
    simp only [impl_partsOf.l1]
    rw [List.length_map, if_neg (show ¬ (j : Int) < (q.length : Int) from fun h => by have := Int.ofNat_lt.1 h; omega)]
    rfl
  | succ d ih =>
    intro j c g hj hc H
    have hjl : j < q.length := by omega
    have e : (fun s => (if s = q[j] then true else g s) || (q.drop (j + 1)).contains s) = (fun s => g s || (q.drop j).contains s) := by
      funext s
      rw [List.drop_eq_getElem_cons hjl, List.contains_cons]
      by_cases h : s = q[j]
      · rw [if_pos h, beq_iff_eq.2 h]
        simp
      · rw [if_neg h, beq_eq_false_iff_ne.2 h, Bool.false_or]
    have h := ih (j + 1) (c + 1) (fun s => if s = q[j] then true else g s) (by omega) (by omega) (by
      rw [e, show c + 1 + d = c + (d + 1) by omega]
      exact H)
    refine Ev.step (fun k => ?_) h
    simp only [impl_partsOf.l1]
    rw [List.length_map, if_pos (Int.ofNat_lt.2 hjl), if_pos (Int.natCast_nonneg _), rdM hjl, if_pos ⟨hs _ (List.getElem_mem hjl), by omega⟩, mB_upd, succ64 (by omega)]
theorem far_mem {ks : List Stt} (hk : keysOk ks = true) {s : Stt} (hs : okN ks.length s) (t : Stt) : (foundK ks s).q.contains t = clsK ks s t := by
  have h := (clsK_final hk hs).iff t
  unfold clsK
  cases e : ((foundK ks s).far t).isSome with
  | true => exact List.contains_iff_mem.2 (h.1 e)
  | false =>
    rw [e] at h
    cases e2 : (foundK ks s).q.contains t with
    | false => rfl
    | true => exact absurd (h.2 (List.contains_iff_mem.1 e2)) Bool.false_ne_true
theorem ar_p {c i q : Nat} (h : c ≤ i * 1024) (h1 : i < 1024) (h2 : q ≤ 1024) : c + q ≤ 2000000 := by omega
theorem ar_q {c i q : Nat} (h : c ≤ i * 1024) (h2 : q ≤ 1024) : c + q ≤ (i + 1) * 1024 := by omega
theorem po_l0 {ks : List Stt} (hk : keysOk ks = true) (L : List Stt) (hL : L.length ≤ 1024) (hok : ∀ s ∈ L, okN ks.length s) : ∀ d i (g : Stt → Bool) (c n : Nat), i + d = L.length → n ≤ i → c ≤ i * 1024 →
    Ev (fun k => impl_partsOf.l0 (impl_PartsByKeys_1.f (ks.map tx)) (L.map tx) k (mB g) c (n : Int) (i : Int)) ((n + cnt (clsK ks) (L.drop i) g : Nat) : Int) := by
  obtain ⟨⟨kl1, kl2⟩, k3⟩ := keys_parts hk
  have hp := pow10 kl2
  intro d
  induction d with
  | zero =>
    intro i g c n hi hn hc
    rw [List.drop_eq_nil_of_le (by omega)]
    refine Ev.step (f := fun _ => some (n : Int)) (fun k => ?_) (Ev.now _)
    simp only [impl_partsOf.l0]
    rw [List.length_map, if_neg (fun h => by have := Int.ofNat_lt.1 h; omega)]
  | succ d ih =>
    intro i g c n hi hn hc
    have hil : i < L.length := by omega
    have ho := hok _ (List.getElem_mem hil)
    have hsz := ok_smallK kl2 ho
    rw [List.drop_eq_getElem_cons hil]
    unfold cnt
    by_cases hs : g L[i] = true
    · rw [if_pos hs]
      refine Ev.step (fun k => ?_) (ih (i + 1) g c n (by omega) (by omega) (Nat.le_trans hc (Nat.mul_le_mul_right 1024 (Nat.le_succ i))))
      simp only [impl_partsOf.l0]
      rw [List.length_map, if_pos (Int.ofNat_lt.2 hil), if_pos (Int.natCast_nonneg _), rdM hil, if_pos hsz, mB_tx, if_pos hs, succ64 (by omega)]
    · rw [if_neg hs]
      have hsr : Ev (fun k => impl_PartsByKeys_1.f (ks.map tx) k (tx L[i])) ((foundK ks L[i]).q.map tx) := by
        unfold impl_PartsByKeys_1.f
        exact Ev.bind (f := fun _ (q : List ByteArray × (ByteArray → Option Int) × (ByteArray → Option Int)) => some q.1) (search_runK hk L[i] ho) (Ev.now _)
      obtain ⟨hI, hG⟩ := found_good (setupK hk) ho
      have hql : (foundK ks L[i]).q.length ≤ 2 ^ ks.length := hG.len (setupK hk) hI.nodup
      have hqs : ∀ s ∈ (foundK ks L[i]).q, (tx s).size ≤ maxLen := fun s h => ok_smallK kl2 (hG.ok s h)
      have h1 := po_l1 (impl_PartsByKeys_1.f (ks.map tx)) (L.map tx) (foundK ks L[i]).q (by omega) hqs ((n + 1 : Nat) : Int) (i : Int) (((n + 1) + cnt (clsK ks) (L.drop (i + 1)) (fun t => g t || clsK ks L[i] t) : Nat) : Int) (foundK ks L[i]).q.length 0 c g (Nat.zero_add _) (ar_p hc (by omega) (by omega)) (by
        rw [List.drop_zero, succ64 (by omega)]
        have e : (fun s => g s || (foundK ks L[i]).q.contains s) = (fun t => g t || clsK ks L[i] t) := by
          funext t
          rw [far_mem hk ho]
        rw [e]
        exact ih (i + 1) _ (c + (foundK ks L[i]).q.length) (n + 1) (by omega) (by omega) (ar_q hc (by omega)))
      rw [show n + (cnt (clsK ks) (L.drop (i + 1)) (fun t => g t || clsK ks L[i] t) + 1) = (n + 1) + cnt (clsK ks) (L.drop (i + 1)) (fun t => g t || clsK ks L[i] t) by omega]
      refine Ev.step (f := fun k => (impl_PartsByKeys_1.f (ks.map tx) k (tx L[i])).bind fun ts => impl_partsOf.l1 (impl_PartsByKeys_1.f (ks.map tx)) (L.map tx) k ts (mB g) c ((n + 1 : Nat) : Int) (i : Int) 0) (fun k => ?_) (Ev.bind hsr h1)
      simp only [impl_partsOf.l0]
      rw [List.length_map, if_pos (Int.ofNat_lt.2 hil), if_pos (Int.natCast_nonneg _), rdM hil, if_pos hsz, mB_tx, if_neg hs, succ64 (n := n) (by omega)]
theorem partsOf {ks : List Stt} (hk : keysOk ks = true) : Ev (fun k => impl_partsOf.f (impl_PartsByKeys_1.f (ks.map tx)) k ((tsK ks.length).map tx)) ((partsK ks : Nat) : Int) := by
  obtain ⟨⟨kl1, kl2⟩, k3⟩ := keys_parts hk
  have hp := pow10 kl2
  have hl := tsK_length ks.length
  have h := po_l0 hk (tsK ks.length) (by omega) (tsK_ok ks.length) (tsK ks.length).length 0 (fun _ => false) 0 0 (Nat.zero_add _) (Nat.le_refl _) (Nat.zero_le _)
  rw [List.drop_zero, Nat.zero_add] at h
  exact h
def resK (ks : List Stt) : Int × Bool := if keysOk ks = true then ((partsK ks : Nat), true) else (0, false)
theorem specParts (ks : List Stt) (hn : ks.length ≤ 1048576) : Ev (fun k => spec_PartsByKeys.f k (ks.map tx)) (resK ks) := by
  unfold spec_PartsByKeys.f resK
  refine Ev.bind (keGood ks (by omega)) ?_
  cases hk : keysOk ks with
  | false => exact Ev.congr (fun k => by rw [if_neg Bool.false_ne_true, if_neg Bool.false_ne_true]) (Ev.now _)
  | true => exact Ev.congr (fun k => by rw [if_pos rfl]) (by rw [if_pos rfl]; exact Ev.bind (f := fun _ t => some (t, true)) (keParts hk) (Ev.now _))
theorem implParts (ks : List Stt) (hn : ks.length ≤ 1048576) : Ev (fun k => impl_PartsByKeys.f k (ks.map tx)) (resK ks) := by
  unfold impl_PartsByKeys.f resK
  refine Ev.bind (areKeys ks (by omega)) ?_
  cases hk : keysOk ks with
  | false => exact Ev.congr (fun k => by rw [if_neg Bool.false_ne_true, if_neg Bool.false_ne_true]) (Ev.now _)
  | true =>
    obtain ⟨⟨kl1, kl2⟩, k3⟩ := keys_parts hk
    have ht := textStates ks.length kl2
    exact Ev.congr (fun k => by rw [if_pos rfl, List.length_map]) (by rw [if_pos rfl]; exact Ev.bind ht (Ev.bind (f := fun _ t => some (t, true)) (partsOf hk) (Ev.now _)))
end Go.Proofs.YtbmbehkdidlolaaGreatDoor.Lem
namespace Go.Proofs.YtbmbehkdidlolaaGreatDoor.Lem
open Go.RowKit Go.Proofs.YtbmbehkdidlolaaGreatDoor.PT Go.Proofs.YtbmbehkdidlolaaGreatDoorW.PrintWords Go.Proofs.YtbmbehkdidlolaaGreatDoorW.PrintLast Go.Proofs.YtbmbehkdidlolaaGreatDoorW.PrintMore Go.Proofs.YtbmbehkdidlolaaGreatDoor.Ring Go.Proofs.YtbmbehkdidlolaaGreatDoor.Bfs
set_option linter.unusedVariables false
set_option linter.unusedSimpArgs false

/-- A state's number, the ring k being worth 2 to the power k. -/
def bv : Stt → Nat
  | [] => 0
  | c :: l => (if c = 49 then 1 else 0) + 2 * bv l
theorem bv_lt : ∀ s : Stt, bv s < 2 ^ s.length
  | [] => Nat.one_pos
  | c :: l => by
    have := bv_lt l
    rw [bv, List.length_cons, Nat.pow_succ]
    split <;> omega
theorem bvN_lt {n : Nat} {s : Stt} (hs : okN n s) : bv s < 2 ^ n := by
  have := bv_lt s
  rwa [hs.1] at this
theorem bits_eq {n : Nat} {s : Stt} (hs : okN n s) (hn : n ≤ 10) : Ev (fun k => impl_bits.f k (tx s)) ((bv s : Nat) : Int) := by
  obtain ⟨h1, h2⟩ := hs
  have go : ∀ j : Nat, j ≤ n → Ev (fun k => impl_bits.l0 k (tx s) ((bv (s.drop j) : Nat) : Int) ((j : Int) - 1)) ((bv s : Nat) : Int) := by
    intro j
    induction j with
    | zero =>
      intro _
      refine Ev.step (f := fun _ => some ((bv s : Nat) : Int)) (fun k => ?_) (Ev.now _)
      simp only [impl_bits.l0]
      rw [if_neg (by omega)]
      rfl
    | succ j ih =>
      intro hj
      have hjl : j < s.length := by omega
      have hb := bv_lt (s.drop (j + 1))
      have hple : (2 : Nat) ^ (s.drop (j + 1)).length ≤ 2 ^ 10 := Nat.pow_le_pow_right (by decide) (by rw [List.length_drop]; omega)
      have h1024 : (2 : Nat) ^ 10 = 1024 := by decide
      have hc := okc_or (List.all_eq_true.1 h2 _ (List.getElem_mem hjl))
      obtain ⟨d, hd, he, hd2⟩ : ∃ d : Nat, d ≤ 1 ∧ ((s[j].toNat : Int) - 48) % 256 = (d : Int) ∧ bv (s.drop j) = 2 * bv (s.drop (j + 1)) + d := by
        rw [List.drop_eq_getElem_cons hjl, bv]
        rcases hc with h | h
        · exact ⟨0, by decide, by rw [h]; decide, by rw [h, if_neg (by decide)]; omega⟩
        · exact ⟨1, by decide, by rw [h]; decide, by rw [h, if_pos rfl]; omega⟩
      have e := ih (by omega)
      rw [hd2] at e
      refine Ev.step (fun k => ?_) e
      generalize bv (s.drop (j + 1)) = v at *
      have e0 : ((j + 1 : Nat) : Int) - 1 = (j : Int) := by omega
      have e1 : wrap64 (2 * (v : Int)) = ((2 * v : Nat) : Int) := by rw [w64 (by omega) (by omega)]; omega
      have e2 : wrap64 (((2 * v : Nat) : Int) + (d : Int)) = ((2 * v + d : Nat) : Int) := by rw [w64 (by omega) (by omega)]; omega
      have e3 : wrap64 ((j : Int) - 1) = (j : Int) - 1 := w64 (by omega) (by omega)
      simp only [impl_bits.l0]
      rw [e0, if_pos (show (j : Int) ≥ 0 from Int.natCast_nonneg j), if_pos (Int.natCast_nonneg j), tx_size, if_pos (Int.ofNat_lt.2 hjl), bt_tx hjl, he, e1, e2, e3]
  have e := go n (Nat.le_refl _)
  have e3 : wrap64 ((n : Int) - 1) = (n : Int) - 1 := w64 (by omega) (by omega)
  have e4 : s.drop n = [] := List.drop_of_length_le (by omega)
  rw [e4] at e
  unfold impl_bits.f
  rw [tx_size, h1, e3]
  exact e
theorem bv_inj : ∀ {s t : Stt}, s.all okc = true → t.all okc = true → s.length = t.length → bv s = bv t → s = t
  | [], [], _, _, _, _ => rfl
  | [], _ :: _, _, _, h, _ => by simp at h
  | _ :: _, [], _, _, h, _ => by simp at h
  | a :: s, b :: t, hs, ht, hl, h => by
    rw [List.all_cons, Bool.and_eq_true] at hs ht
    rw [bv, bv] at h
    have hb : bv s = bv t := by split at h <;> split at h <;> omega
    have e := bv_inj hs.2 ht.2 (by simpa using hl) hb
    have ea := okc_or hs.1
    have eb := okc_or ht.1
    rw [hb] at h
    rcases ea with ea | ea <;> rcases eb with eb | eb
    · rw [ea, eb, e]
    · rw [ea, eb, if_neg (by decide), if_pos rfl] at h; omega
    · rw [ea, eb, if_pos rfl, if_neg (by decide)] at h; omega
    · rw [ea, eb, e]
theorem bvN_inj {n : Nat} {s t : Stt} (hs : okN n s) (ht : okN n t) (e : bv s = bv t) : s = t := bv_inj hs.2 ht.2 (by rw [hs.1, ht.1]) e
theorem bv_sur : ∀ (n b : Nat), b < 2 ^ n → ∃ s, okN n s ∧ bv s = b
  | 0, b, h => ⟨[], ⟨rfl, rfl⟩, by simp [bv]; omega⟩
  | n + 1, b, h => by
    obtain ⟨s, ⟨h1, h2⟩, h3⟩ := bv_sur n (b / 2) (by rw [Nat.pow_succ] at h; omega)
    by_cases hb : b % 2 = 1
    · exact ⟨49 :: s, ⟨by rw [List.length_cons, h1], by rw [List.all_cons, h2]; rfl⟩, by rw [bv, if_pos rfl, h3]; omega⟩
    · exact ⟨48 :: s, ⟨by rw [List.length_cons, h1], by rw [List.all_cons, h2]; rfl⟩, by rw [bv, if_neg (by decide), h3]; omega⟩
def fl (b k : Nat) : Nat := if b / 2 ^ k % 2 = 0 then b + 2 ^ k else b - 2 ^ k
theorem bv_flip : ∀ (s : Stt) (k : Nat), k < s.length → s.all okc = true → bv (flipAt s k) = fl (bv s) k
  | [], k, h, _ => absurd h (Nat.not_lt_zero k)
  | c :: l, 0, _, ho => by
    rw [List.all_cons, Bool.and_eq_true] at ho
    have e : flipAt (c :: l) 0 = flipC c :: l := rfl
    rw [e, bv, bv]
    unfold fl flipC
    rw [Nat.pow_zero, Nat.div_one]
    rcases okc_or ho.1 with h | h
    · subst h
      have a1 : (if (48 : UInt8) = 49 then (48 : UInt8) else 49) = 49 := rfl
      have a2 : (if (48 : UInt8) = 49 then 1 else 0) = 0 := rfl
      rw [a1, if_pos rfl, a2, if_pos (by omega)]
      omega
    · subst h
      have a1 : (if (49 : UInt8) = 49 then (48 : UInt8) else 49) = 48 := rfl
      have a2 : (if (49 : UInt8) = 49 then 1 else 0) = 1 := rfl
      have a3 : (if (48 : UInt8) = 49 then 1 else 0) = 0 := rfl
      rw [a1, a2, a3, if_neg (by omega)]
      omega
  | c :: l, k + 1, hk, ho => by
    rw [List.all_cons, Bool.and_eq_true] at ho
    have e : flipAt (c :: l) (k + 1) = c :: flipAt l k := rfl
    have ih := bv_flip l k (by simpa using hk) ho.2
    rw [e, bv, bv, ih]
    obtain ⟨d, hd, h⟩ : ∃ d : Nat, d ≤ 1 ∧ (if c = 49 then 1 else 0) = d := by
      split
      · exact ⟨1, by omega, rfl⟩
      · exact ⟨0, by omega, rfl⟩
    rw [h]
    unfold fl
    have e2 : (d + 2 * bv l) / 2 ^ (k + 1) = bv l / 2 ^ k := by
      rw [Nat.pow_succ, Nat.mul_comm (2 ^ k) 2, ← Nat.div_div_eq_div_mul]
      congr 1
      omega
    rw [e2]
    by_cases h0 : bv l / 2 ^ k % 2 = 0
    · rw [if_pos h0, if_pos h0, Nat.pow_succ]; omega
    · rw [if_neg h0, if_neg h0, Nat.pow_succ]
      have hle : 2 ^ k ≤ bv l := by
        apply Decidable.byContradiction
        intro hn
        exact h0 (by rw [Nat.div_eq_of_lt (by omega)])
      omega
theorem bits_xor (a b : Nat) (ha : a < 2 ^ 62) (hb : b < 2 ^ 62) : Go.bits .xor .i64 (a : Int) (b : Int) = ((a ^^^ b : Nat) : Int) := by
  have hp : (2 : Nat) ^ 62 ≤ 2 ^ IntKind.i64.bits := Nat.pow_le_pow_right (by decide) (by decide)
  have ha' : a % 2 ^ IntKind.i64.bits = a := Nat.mod_eq_of_lt (Nat.lt_of_lt_of_le ha hp)
  have hb' : b % 2 ^ IntKind.i64.bits = b := Nat.mod_eq_of_lt (Nat.lt_of_lt_of_le hb hp)
  have hx := Nat.xor_lt_two_pow ha hb
  have h62 : (2 : Nat) ^ 62 = 4611686018427387904 := rfl
  simp only [Go.bits, BitVec.ofInt_natCast, BitVec.toNat_xor, BitVec.toNat_ofNat, ha', hb']
  exact wrap_i64 (by omega) (by omega)
theorem xor_nat : ∀ b : Fin 1024, ∀ k : Fin 10, b.val ^^^ 2 ^ k.val = fl b.val k.val := by decide +kernel
theorem xor_fin (b k : Nat) (hb : b < 1024) (hk : k < 10) : Go.bits .xor .i64 (b : Int) ((2 ^ k : Nat) : Int) = ((fl b k : Nat) : Int) := by
  have h2 : (2 : Nat) ^ k ≤ 2 ^ 10 := Nat.pow_le_pow_right (by decide) (by omega)
  have h1024 : (2 : Nat) ^ 10 = 1024 := rfl
  have h62 : (2 : Nat) ^ 62 = 4611686018427387904 := rfl
  rw [bits_xor b (2 ^ k) (by omega) (by omega), xor_nat ⟨b, hb⟩ ⟨k, hk⟩]
def bi (s : Stt) : Int := ((bv s : Nat) : Int)
def lkR (ks : List Stt) (s : Stt) : List Int := (stepK ks s).map bi
theorem lkR_len (ks : List Stt) (s : Stt) : (lkR ks s).length = (mvK ks s ks.length).length := by unfold lkR; rw [List.length_map, step_lenK]
theorem setget {α : Type} (l : List (List α)) (b : Nat) (X : List α) (h : b < l.length) : (l.set b X).getD b [] = X := by
  rw [List.getD_eq_getElem?_getD, List.getElem?_set_self h]
  rfl
theorem setother {α : Type} (l : List (List α)) (b c : Nat) (X : List α) (h : b ≠ c) : (l.set b X).getD c [] = l.getD c [] := by
  rw [List.getD_eq_getElem?_getD, List.getElem?_set_ne h, ← List.getD_eq_getElem?_getD]
theorem setself {α : Type} (l : List (List α)) (b : Nat) (h : b < l.length) (e : l.getD b [] = []) : l.set b [] = l := by
  apply List.ext_getElem?
  intro i
  by_cases hi : b = i
  · subst hi
    rw [List.getElem?_set_self h]
    rw [List.getD_eq_getElem?_getD, List.getElem?_eq_getElem h] at e
    rw [List.getElem?_eq_getElem h]
    exact congrArg some e.symm
  · rw [List.getElem?_set_ne hi]
theorem rows_l1 {ks : List Stt} (hk : keysOk ks = true) (L : List ByteArray) (x15 x16 : Int) (s : Stt) (hs : okN ks.length s) (rows : List (List Int)) (hl : rows.length = 2 ^ ks.length) (R : List (List Int))
    (H : Ev (fun k => impl_keyedLinks.l0 k (ks.map tx) (rows.set (bv s) (lkR ks s)) L x15 (wrap64 (x16 + 1))) R) : ∀ d j, j + d = (mvK ks s ks.length).length →
    Ev (fun k => impl_keyedLinks.l1 k (ks.map tx) (rows.set (bv s) ((lkR ks s).take j)) (tx s) L x15 x16 (ints (mvK ks s ks.length)) ((ints (mvK ks s ks.length)).length : Int) (j : Int)) R := by
  obtain ⟨⟨k1, k2⟩, k3⟩ := keys_parts hk
  have eb := bits_eq hs k2
  have hb := bvN_lt hs
  have hp := pow10 k2
  have hbr : bv s < rows.length := by rw [hl]; exact hb
  intro d
  induction d with
  | zero =>
    intro j hj
    obtain rfl : j = (mvK ks s ks.length).length := by omega
    rw [← lkR_len, List.take_length]
    refine Ev.step (fun k => ?_) H
    simp only [impl_keyedLinks.l1]
    rw [ints_len, lkR_len, if_neg (Int.lt_irrefl _)]
  | succ d ih =>
    intro j hj
    have hjl : j < (mvK ks s ks.length).length := by omega
    have hml := mvK_len ks s ks.length
    have hmm := mvK_lt (List.getElem_mem hjl)
    have hjr : j < (lkR ks s).length := by rw [lkR_len]; exact hjl
    have hjs : j < (stepK ks s).length := by rw [step_lenK]; exact hjl
    have hx : Go.bits .xor .i64 ((bv s : Nat) : Int) (shl .i64 1 (((mvK ks s ks.length)[j] : Nat) : Int)) = (lkR ks s)[j] := by
      rw [shl_one _ (by omega)]
      have h1 := xor_fin (bv s) (mvK ks s ks.length)[j] (by omega) (by omega)
      have h2 : (lkR ks s)[j] = bi ((stepK ks s)[j]) := List.getElem_map _
      rw [h2, stepK_get hjl hjs]
      unfold bi
      rw [bv_flip _ _ (by rw [hs.1]; exact hmm.1) hs.2]
      exact h1
    have h := ih (j + 1) (by omega)
    rw [List.take_succ_eq_append_getElem hjr] at h
    refine ev_num eb h (fun k hk' => ?_)
    have hk2 : impl_bits.f k (tx s) = some ((bv s : Nat) : Int) := hk'
    have c1 : (j : Int) < ((ints (mvK ks s ks.length)).length : Int) := by rw [ints_len]; exact Int.ofNat_lt.2 hjl
    have c2 : ((bv s : Nat) : Int) < ((rows.set (bv s) ((lkR ks s).take j)).length : Int) := by rw [List.length_set]; exact Int.ofNat_lt.2 hbr
    have e2 : rd_L2 (rows.set (bv s) ((lkR ks s).take j)) ((bv s : Nat) : Int) = (lkR ks s).take j := setget rows (bv s) _ hbr
    have c3 : ((lkR ks s).take j).length < 17592186044416 := by rw [List.length_take]; omega
    simp only [impl_keyedLinks.l1]
    rw [if_pos c1, if_pos (Int.natCast_nonneg _), if_pos c1, hk2, obind, obind, if_pos (Int.natCast_nonneg _), if_pos c2, obind, rd_ints hjl, if_pos (Int.natCast_nonneg _), e2, if_pos c3, Int.toNat_natCast, hx, List.set_set, succ64 (by omega)]
/-- The rows behind a part of the states. -/
def rwK (ks : List Stt) (l : List Stt) : List (List Int) := l.foldl (fun rows s => rows.set (bv s) (lkR ks s)) (List.replicate (2 ^ ks.length) [])
theorem rw_snoc (ks l : List Stt) (s : Stt) : rwK ks (l ++ [s]) = (rwK ks l).set (bv s) (lkR ks s) := by unfold rwK; rw [List.foldl_append]; rfl
theorem rw_len (ks : List Stt) : ∀ (l : List Stt) (r : List (List Int)), (l.foldl (fun rows s => rows.set (bv s) (lkR ks s)) r).length = r.length
  | [], r => rfl
  | s :: l, r => by rw [List.foldl_cons, rw_len ks l, List.length_set]
theorem rwK_len (ks l : List Stt) : (rwK ks l).length = 2 ^ ks.length := by unfold rwK; rw [rw_len, List.length_replicate]
theorem rw_get {n : Nat} (ks : List Stt) {s : Stt} (hs : okN n s) : ∀ (l : List Stt) (r : List (List Int)), (∀ t ∈ l, okN n t) → bv s < r.length → (l.foldl (fun rows t => rows.set (bv t) (lkR ks t)) r).getD (bv s) [] = if s ∈ l then lkR ks s else r.getD (bv s) []
  | [], r, _, _ => by simp
  | t :: l, r, hl, hr => by
    rw [List.foldl_cons, rw_get ks hs l _ (fun x hx => hl x (List.mem_cons_of_mem _ hx)) (by rw [List.length_set]; exact hr)]
    by_cases h1 : s ∈ l
    · rw [if_pos h1, if_pos (List.mem_cons_of_mem _ h1)]
    · rw [if_neg h1]
      by_cases h2 : s = t
      · subst h2
        rw [if_pos List.mem_cons_self, setget _ _ _ hr]
      · rw [if_neg (fun h => by rcases List.mem_cons.1 h with h | h; exact h2 h; exact h1 h), setother _ _ _ _ (fun e => h2 (bvN_inj hs (hl t List.mem_cons_self) e.symm))]
theorem rwK_get {ks : List Stt} {s : Stt} (hs : okN ks.length s) (l : List Stt) (hl : ∀ t ∈ l, okN ks.length t) : (rwK ks l).getD (bv s) [] = if s ∈ l then lkR ks s else [] := by
  have hb := bvN_lt hs
  unfold rwK
  rw [rw_get ks hs l _ hl (by rw [List.length_replicate]; exact hb)]
  congr 1
  rw [List.getD_eq_getElem?_getD, List.getElem?_replicate, if_pos hb]
  rfl
theorem rows {ks : List Stt} (hk : keysOk ks = true) : Ev (fun k => impl_keyedLinks.f k (ks.map tx)) (rwK ks (tsK ks.length)) := by
  obtain ⟨⟨k1, k2⟩, k3⟩ := keys_parts hk
  have hp := pow10 k2
  have hlen := tsK_length ks.length
  have lL : ((tsK ks.length).map tx).length = (tsK ks.length).length := List.length_map _
  have go : ∀ d i, i + d = (tsK ks.length).length → Ev (fun k => impl_keyedLinks.l0 k (ks.map tx) (rwK ks ((tsK ks.length).take i)) ((tsK ks.length).map tx) (((tsK ks.length).map tx).length : Int) (i : Int)) (rwK ks (tsK ks.length)) := by
    intro d
    induction d with
    | zero =>
      intro i hi
      obtain rfl : i = (tsK ks.length).length := by omega
      rw [List.take_length]
      refine Ev.step (f := fun _ => some (rwK ks (tsK ks.length))) (fun k => ?_) (Ev.now _)
      simp only [impl_keyedLinks.l0]
      rw [lL, if_neg (Int.lt_irrefl _)]
    | succ d ih =>
      intro i hi
      have hil : i < (tsK ks.length).length := by omega
      have hs := tsK_ok ks.length _ (List.getElem_mem hil)
      have hm := keyedMoves hk hs
      have c1 : (i : Int) < (((tsK ks.length).map tx).length : Int) := by rw [lL]; exact Int.ofNat_lt.2 hil
      have hnot : ¬ (tsK ks.length)[i] ∈ (tsK ks.length).take i := by
        intro h
        obtain ⟨j, hj, e⟩ := List.getElem_of_mem h
        rw [List.length_take] at hj
        rw [List.getElem_take] at e
        have h9 := List.pairwise_iff_getElem.1 (tsK_nodup ks.length) j i (by omega) hil (by omega)
        exact h9 e
      have hg := rwK_get hs ((tsK ks.length).take i) (fun t ht => tsK_ok _ _ (List.mem_of_mem_take ht))
      rw [if_neg hnot] at hg
      have hrl := rwK_len ks ((tsK ks.length).take i)
      have h := rows_l1 hk ((tsK ks.length).map tx) (((tsK ks.length).map tx).length : Int) (i : Int) (tsK ks.length)[i] hs (rwK ks ((tsK ks.length).take i)) hrl (rwK ks (tsK ks.length)) (by
        have e := ih (i + 1) (by omega)
        rw [List.take_succ_eq_append_getElem hil, rw_snoc] at e
        rw [succ64 (by omega)]
        exact e) (mvK ks (tsK ks.length)[i] ks.length).length 0 (Nat.zero_add _)
      rw [List.take_zero, setself _ _ (by rw [hrl]; exact bvN_lt hs) hg] at h
      refine ev_num hm h (fun k hk' => ?_)
      have hk2 : impl_keyedMoves.f k (ks.map tx) (tx (tsK ks.length)[i]) = some (ints (mvK ks (tsK ks.length)[i] ks.length)) := hk'
      simp only [impl_keyedLinks.l0]
      rw [if_pos c1, if_pos (Int.natCast_nonneg _), if_pos c1, rdK hil, hk2, obind]
      rfl
  have h := go (tsK ks.length).length 0 (Nat.zero_add _)
  unfold impl_keyedLinks.f
  rw [List.length_map, shl_one ks.length (by omega)]
  exact Ev.congr (fun k => by rw [if_pos (Int.natCast_nonneg _), Int.toNat_natCast, if_pos (by omega)]) (Ev.bind (textStates ks.length k2) h)
end Go.Proofs.YtbmbehkdidlolaaGreatDoor.Lem
namespace Go.Proofs.YtbmbehkdidlolaaGreatDoor.Lem
open Go.RowKit Go.Proofs.YtbmbehkdidlolaaGreatDoor.PT Go.Proofs.YtbmbehkdidlolaaGreatDoorW.PrintWords Go.Proofs.YtbmbehkdidlolaaGreatDoorW.PrintLast Go.Proofs.YtbmbehkdidlolaaGreatDoorW.PrintMore Go.Proofs.YtbmbehkdidlolaaGreatDoor.Ring Go.Proofs.YtbmbehkdidlolaaGreatDoor.Bfs
set_option linter.unusedVariables false
set_option linter.unusedSimpArgs false

def gK (ks : List Stt) (s : Stt) : Nat := (mvK ks s ks.length).length
def dgK (g : Nat → Nat) (i : Nat) : List Int := (List.range i).map (fun j => ((g j : Nat) : Int))
theorem dgK_len (g : Nat → Nat) (i : Nat) : (dgK g i).length = i := by unfold dgK; rw [List.length_map, List.length_range]
theorem dgK_succ (g : Nat → Nat) (i : Nat) : dgK g (i + 1) = dgK g i ++ [((g i : Nat) : Int)] := by
  unfold dgK
  rw [List.range_succ, List.map_append]
  rfl
theorem degrees {ks : List Stt} (hk : keysOk ks = true) : Ev (fun k => spec_keDegrees.f k (ks.map tx)) (dgK (fun i => gK ks (stOf ks.length i)) (2 ^ ks.length)) := by
  obtain ⟨⟨k1, k2⟩, k3⟩ := keys_parts hk
  have h10 : (2 : Nat) ^ ks.length ≤ 2 ^ 10 := Nat.pow_le_pow_right (by decide) k2
  have h1024 : (2 : Nat) ^ 10 = 1024 := by decide
  have go : ∀ d i, i + d = 2 ^ ks.length → Ev (fun k => spec_keDegrees.l0 k (ks.map tx) (dgK (fun i => gK ks (stOf ks.length i)) i) (i : Int)) (dgK (fun i => gK ks (stOf ks.length i)) (2 ^ ks.length)) := by
    intro d
    induction d with
    | zero =>
      intro i hi
      obtain rfl : i = 2 ^ ks.length := by omega
      refine Ev.step (f := fun _ => some (dgK (fun i => gK ks (stOf ks.length i)) (2 ^ ks.length))) (fun k => ?_) (Ev.now _)
      simp only [spec_keDegrees.l0]
      rw [List.length_map, shl_one ks.length (by omega), if_neg (Int.lt_irrefl _)]
    | succ d ih =>
      intro i hi
      have hil : i < 2 ^ ks.length := by omega
      have hr : Ev (fun k => spec_riState.f k (ks.length : Int) (i : Int)) (tx (stOf ks.length i)) := riState ks.length i (by omega) (by omega)
      have hm := keMoves hk (s := stOf ks.length i) ⟨stOf_length _ _, stOf_ok _ _⟩
      have hlen := dgK_len (fun i => gK ks (stOf ks.length i)) i
      have h := ih (i + 1) (by omega)
      rw [dgK_succ] at h
      refine Ev.step (f := fun k => (spec_riState.f k (ks.length : Int) (i : Int)).bind fun t109 => ((spec_keMoves.f k (ks.map tx) t109).bind fun t110 => spec_keDegrees.l0 k (ks.map tx) (dgK (fun i => gK ks (stOf ks.length i)) i ++ [(t110.length : Int)]) ((i + 1 : Nat) : Int))) (fun k => ?_) (Ev.bind hr (Ev.bind hm ?_))
      · simp only [spec_keDegrees.l0]
        rw [List.length_map, shl_one ks.length (by omega), if_pos (Int.ofNat_lt.2 hil), succ64 (by omega)]
        simp only [if_pos (show (dgK (fun i => gK ks (stOf ks.length i)) i).length < 17592186044416 by omega)]
      · have e : (ints (mvK ks (stOf ks.length i) ks.length)).length = gK ks (stOf ks.length i) := by unfold ints gK; rw [List.length_map]
        rw [e]
        exact h
  have h := go (2 ^ ks.length) 0 (Nat.zero_add _)
  unfold spec_keDegrees.f
  exact h
def big (l : List Nat) : Bool := l.any (fun x => decide (2 < x))
def ends (l : List Nat) : Nat := l.countP (fun x => x == 1)
theorem big_cons (x : Nat) (l : List Nat) : big (x :: l) = (decide (2 < x) || big l) := rfl
theorem ends_cons (x : Nat) (l : List Nat) : ends (x :: l) = (if x = 1 then ends l + 1 else ends l) := by
  unfold ends
  rw [List.countP_cons]
  by_cases h : x = 1
  · rw [if_pos h, if_pos (beq_iff_eq.2 h)]
  · rw [if_neg h, if_neg (fun e => h (beq_iff_eq.1 e))]
    rfl
theorem ends_le (l : List Nat) : ends l ≤ l.length := List.countP_le_length
theorem big_perm {l m : List Nat} (h : l.Perm m) : big l = big m := by
  unfold big
  rw [Bool.eq_iff_iff, List.any_eq_true, List.any_eq_true]
  exact ⟨fun ⟨x, hx, e⟩ => ⟨x, h.mem_iff.1 hx, e⟩, fun ⟨x, hx, e⟩ => ⟨x, h.mem_iff.2 hx, e⟩⟩
theorem ends_perm {l m : List Nat} (h : l.Perm m) : ends l = ends m := h.countP_eq _
/-- The answer: the greatest number of links, the ends, the parts. -/
def lineA (b : Bool) (e p : Nat) : Bool × Bool := if b = true then (false, true) else (decide (e = 2 ∧ p = 1), true)
theorem rd_nat {l : List Nat} {i : Nat} (h : i < l.length) : rd (l.map (fun (x : Nat) => (x : Int))) (i : Int) = ((l[i] : Nat) : Int) := rd_ints h
theorem il_spec {ks : List Stt} (hk : keysOk ks = true) (l : List Nat) (hl : l.length ≤ 1024) : ∀ d i (e : Nat), i + d = l.length → e ≤ i →
    Ev (fun k => spec_IsLineOfStates.l0 k (ks.map tx) (e : Int) (ints l) (l.length : Int) (i : Int)) (lineA (big (l.drop i)) (e + ends (l.drop i)) (partsK ks)) := by
  intro d
  induction d with
  | zero =>
    intro i e hi he
    rw [List.drop_eq_nil_of_le (by omega)]
    have e0 : lineA (big []) (e + ends []) (partsK ks) = (decide (e = 2 ∧ partsK ks = 1), true) := rfl
    rw [e0]
    by_cases h2 : e = 2
    · obtain ⟨K, h⟩ := keParts hk
      refine ⟨K + 1, fun n hn => ?_⟩
      obtain ⟨k, rfl⟩ : ∃ k, n = k + 1 := ⟨n - 1, by omega⟩
      have h := h k (by omega)
      have h : spec_keParts.f k (ks.map tx) = some ((partsK ks : Nat) : Int) := h
      show spec_IsLineOfStates.l0 (k + 1) (ks.map tx) (e : Int) (ints l) (l.length : Int) (i : Int) = _
      simp only [spec_IsLineOfStates.l0]
      rw [if_neg (show ¬ (i : Int) < (l.length : Int) from fun h => by have := Int.ofNat_lt.1 h; omega), if_pos (show (e : Int) = 2 by rw [h2]; rfl), h, obind]
      congr 2
      rw [Bool.eq_iff_iff, beq_iff_eq, decide_eq_true_eq]
      exact ⟨fun h => ⟨h2, by omega⟩, fun h => by rw [h.2]; rfl⟩
    · refine Ev.step (f := fun _ => some (decide (e = 2 ∧ partsK ks = 1), true)) (fun k => ?_) (Ev.now _)
      simp only [spec_IsLineOfStates.l0]
      rw [if_neg (show ¬ (i : Int) < (l.length : Int) from fun h => by have := Int.ofNat_lt.1 h; omega), if_neg (show ¬ (e : Int) = 2 from fun h => h2 (by omega)), decide_eq_false (show ¬ (e = 2 ∧ partsK ks = 1) from fun h => h2 h.1)]
  | succ d ih =>
    intro i e hi he
    have hil : i < l.length := by omega
    have hl2 : (ints l).length = l.length := ints_len l
    rw [List.drop_eq_getElem_cons hil, big_cons, ends_cons]
    by_cases h2 : 2 < l[i]
    · rw [decide_eq_true h2]
      have e0 : ∀ n b, lineA (true || b) n (partsK ks) = (false, true) := fun _ _ => rfl
      rw [e0]
      refine Ev.step (f := fun _ => some (false, true)) (fun k => ?_) (Ev.now _)
      simp only [spec_IsLineOfStates.l0]
      rw [if_pos (Int.ofNat_lt.2 hil), if_pos (Int.natCast_nonneg _), hl2, if_pos (Int.ofNat_lt.2 hil), rd_ints hil, if_pos (show ((l[i] : Nat) : Int) > 2 by omega)]
    · rw [decide_eq_false h2, Bool.false_or]
      by_cases h1 : l[i] = 1
      · rw [if_pos h1]
        have h := ih (i + 1) (e + 1) (by omega) (by omega)
        rw [show e + (ends (l.drop (i + 1)) + 1) = e + 1 + ends (l.drop (i + 1)) by omega]
        refine Ev.step (fun k => ?_) h
        simp only [spec_IsLineOfStates.l0]
        rw [if_pos (Int.ofNat_lt.2 hil), if_pos (Int.natCast_nonneg _), hl2, if_pos (Int.ofNat_lt.2 hil), rd_ints hil, if_neg (show ¬ ((l[i] : Nat) : Int) > 2 by omega), if_pos (show ((l[i] : Nat) : Int) = 1 by omega), succ64 (n := e) (by omega), succ64 (n := i) (by omega)]
      · rw [if_neg h1]
        refine Ev.step (fun k => ?_) (ih (i + 1) e (by omega) (by omega))
        simp only [spec_IsLineOfStates.l0]
        rw [if_pos (Int.ofNat_lt.2 hil), if_pos (Int.natCast_nonneg _), hl2, if_pos (Int.ofNat_lt.2 hil), rd_ints hil, if_neg (show ¬ ((l[i] : Nat) : Int) > 2 by omega), if_neg (show ¬ ((l[i] : Nat) : Int) = 1 by omega), succ64 (n := i) (by omega)]
theorem il_impl (P : Nat) (rows : List (List Int)) (l : List Nat) (hl : l.length ≤ 1024) (hr : rows.length = l.length) (hg : ∀ i (h : i < l.length), (rows.getD i []).length = l[i]) : ∀ d i (e : Nat), i + d = l.length → e ≤ i →
    Ev (fun k => impl_IsLineOfStates.l0 k (P : Int) (e : Int) rows (rows.length : Int) (i : Int)) (lineA (big (l.drop i)) (e + ends (l.drop i)) P) := by
  intro d
  induction d with
  | zero =>
    intro i e hi he
    rw [List.drop_eq_nil_of_le (by omega)]
    have e0 : lineA (big []) (e + ends []) P = (decide (e = 2 ∧ P = 1), true) := rfl
    rw [e0]
    by_cases h2 : P = 1
    · refine Ev.step (f := fun _ => some (decide (e = 2 ∧ P = 1), true)) (fun k => ?_) (Ev.now _)
      simp only [impl_IsLineOfStates.l0]
      rw [if_neg (show ¬ (i : Int) < (rows.length : Int) from fun h => by have := Int.ofNat_lt.1 h; omega), if_pos (show (P : Int) = 1 by rw [h2]; rfl)]
      congr 2
      rw [Bool.eq_iff_iff, beq_iff_eq, decide_eq_true_eq]
      exact ⟨fun h => ⟨by omega, h2⟩, fun h => by rw [h.1]; rfl⟩
    · refine Ev.step (f := fun _ => some (decide (e = 2 ∧ P = 1), true)) (fun k => ?_) (Ev.now _)
      simp only [impl_IsLineOfStates.l0]
      rw [if_neg (show ¬ (i : Int) < (rows.length : Int) from fun h => by have := Int.ofNat_lt.1 h; omega), if_neg (show ¬ (P : Int) = 1 from fun h => h2 (by omega)), decide_eq_false (show ¬ (e = 2 ∧ P = 1) from fun h => h2 h.2)]
  | succ d ih =>
    intro i e hi he
    have hil : i < l.length := by omega
    have hir : i < rows.length := by omega
    have hrd : ((rd_L2 rows (i : Int)).length : Int) = ((l[i] : Nat) : Int) := by rw [← hg i hil]; rfl
    rw [List.drop_eq_getElem_cons hil, big_cons, ends_cons]
    by_cases h2 : 2 < l[i]
    · rw [decide_eq_true h2]
      have e0 : ∀ n b, lineA (true || b) n P = (false, true) := fun _ _ => rfl
      rw [e0]
      refine Ev.step (f := fun _ => some (false, true)) (fun k => ?_) (Ev.now _)
      simp only [impl_IsLineOfStates.l0]
      rw [if_pos (Int.ofNat_lt.2 hir), if_pos (Int.natCast_nonneg _), if_pos (Int.ofNat_lt.2 hir), hrd, if_pos (show ((l[i] : Nat) : Int) > 2 by omega)]
    · rw [decide_eq_false h2, Bool.false_or]
      by_cases h1 : l[i] = 1
      · rw [if_pos h1]
        have h := ih (i + 1) (e + 1) (by omega) (by omega)
        rw [show e + (ends (l.drop (i + 1)) + 1) = e + 1 + ends (l.drop (i + 1)) by omega]
        refine Ev.step (fun k => ?_) h
        simp only [impl_IsLineOfStates.l0]
        rw [if_pos (Int.ofNat_lt.2 hir), if_pos (Int.natCast_nonneg _), if_pos (Int.ofNat_lt.2 hir), hrd, if_neg (show ¬ ((l[i] : Nat) : Int) > 2 by omega), if_pos (show ((l[i] : Nat) : Int) = 1 by omega), succ64 (n := e) (by omega), succ64 (n := i) (by omega)]
      · rw [if_neg h1]
        refine Ev.step (fun k => ?_) (ih (i + 1) e (by omega) (by omega))
        simp only [impl_IsLineOfStates.l0]
        rw [if_pos (Int.ofNat_lt.2 hir), if_pos (Int.natCast_nonneg _), if_pos (Int.ofNat_lt.2 hir), hrd, if_neg (show ¬ ((l[i] : Nat) : Int) > 2 by omega), if_neg (show ¬ ((l[i] : Nat) : Int) = 1 by omega), succ64 (n := i) (by omega)]
/-! ### The two orders -/
noncomputable def sB (n b : Nat) : Stt := if h : b < 2 ^ n then Classical.choose (bv_sur n b h) else []
theorem sB_spec {n b : Nat} (h : b < 2 ^ n) : okN n (sB n b) ∧ bv (sB n b) = b := by
  unfold sB
  rw [dif_pos h]
  exact Classical.choose_spec (bv_sur n b h)
theorem bits_perm (n : Nat) : ((List.range' 0 (2 ^ n)).map (sB n)).Perm (tsK n) := by
  rw [List.perm_ext_iff_of_nodup ?_ (tsK_nodup n)]
  · intro s
    constructor
    · intro h
      obtain ⟨m, hm, rfl⟩ := List.mem_map.1 h
      rw [List.mem_range'_1] at hm
      exact tsK_mem n _ (sB_spec (by omega)).1
    · intro h
      have ho := tsK_ok n s h
      have hb := bvN_lt ho
      refine List.mem_map.2 ⟨bv s, ?_, ?_⟩
      · rw [List.mem_range'_1]
        exact ⟨Nat.zero_le _, by omega⟩
      · exact bvN_inj (sB_spec hb).1 ho (sB_spec hb).2
  · unfold List.Nodup
    rw [List.pairwise_map]
    refine List.Pairwise.imp_of_mem (fun {a b} ha hb hab e => hab ?_) List.nodup_range'
    rw [List.mem_range'_1] at ha hb
    have h1 := (sB_spec (n := n) (b := a) (by omega)).2
    have h2 := (sB_spec (n := n) (b := b) (by omega)).2
    rw [← h1, ← h2, e]
noncomputable def degB (ks : List Stt) : List Nat := ((List.range' 0 (2 ^ ks.length)).map (sB ks.length)).map (gK ks)
def degN (ks : List Stt) : List Nat := ((List.range' 0 (2 ^ ks.length)).map (stOf ks.length)).map (gK ks)
theorem deg_perm (ks : List Stt) : (degN ks).Perm (degB ks) := ((states_perm ks.length).trans (bits_perm ks.length).symm).map _
theorem degN_len (ks : List Stt) : (degN ks).length = 2 ^ ks.length := by simp [degN]
theorem degB_len (ks : List Stt) : (degB ks).length = 2 ^ ks.length := by simp [degB]
theorem dgK_ints (ks : List Stt) : dgK (fun i => gK ks (stOf ks.length i)) (2 ^ ks.length) = ints (degN ks) := by
  unfold dgK degN ints
  rw [List.map_map, List.map_map, List.range_eq_range']
  rfl
theorem get_map2 {α β γ : Type} (f : α → β) (g : β → γ) (l : List α) (i : Nat) (h : i < ((l.map f).map g).length) (h2 : i < l.length) : ((l.map f).map g)[i] = g (f l[i]) := by
  rw [List.getElem_map, List.getElem_map]
theorem degB_get {ks : List Stt} {b : Nat} (h : b < (degB ks).length) : (degB ks)[b] = gK ks (sB ks.length b) := by
  have h2 : b < (List.range' 0 (2 ^ ks.length)).length := by rw [List.length_range']; rwa [degB_len] at h
  have e := get_map2 (sB ks.length) (gK ks) (List.range' 0 (2 ^ ks.length)) b h h2
  rw [List.getElem_range', Nat.zero_add, Nat.one_mul] at e
  exact e
def lineV (ks : List Stt) : Bool × Bool := if keysOk ks = true then lineA (big (degN ks)) (ends (degN ks)) (partsK ks) else (false, false)
theorem line_both (ks : List Stt) (hn : ks.length ≤ 1048576) : Ev (fun k => spec_IsLineOfStates.f k (ks.map tx)) (lineV ks) ∧ Ev (fun k => impl_IsLineOfStates.f k (ks.map tx)) (lineV ks) := by
  unfold lineV
  have hP := implParts ks hn
  unfold resK at hP
  cases hk : keysOk ks with
  | false =>
    rw [hk, if_neg Bool.false_ne_true] at hP
    rw [if_neg Bool.false_ne_true]
    refine ⟨?_, ?_⟩
    · unfold spec_IsLineOfStates.f
      refine Ev.bind (keGood ks (by omega)) ?_
      rw [hk]
      exact Ev.congr (fun k => if_neg (by simp)) (Ev.now _)
    · unfold impl_IsLineOfStates.f
      exact Ev.bind hP (Ev.congr (fun k => if_neg (by simp)) (Ev.now _))
  | true =>
    rw [hk, if_pos rfl] at hP
    obtain ⟨⟨kl1, kl2⟩, k3⟩ := keys_parts hk
    have hp := pow10 kl2
    have l1 := degN_len ks
    have l2 := degB_len ks
    rw [if_pos rfl]
    refine ⟨?_, ?_⟩
    · unfold spec_IsLineOfStates.f
      refine Ev.bind (keGood ks (by omega)) ?_
      rw [hk]
      refine Ev.congr (fun k => if_pos rfl) (Ev.bind (degrees hk) ?_)
      have h := il_spec hk (degN ks) (by omega) (degN ks).length 0 0 (Nat.zero_add _) (Nat.le_refl _)
      rw [List.drop_zero, Nat.zero_add] at h
      rw [dgK_ints, ints_len]
      exact h
    · unfold impl_IsLineOfStates.f
      refine Ev.bind hP (Ev.congr (fun k => if_pos rfl) (Ev.bind (rows hk) ?_))
      have h := il_impl (partsK ks) (rwK ks (tsK ks.length)) (degB ks) (by omega) (by rw [rwK_len, l2]) (fun b hb => by
        have hs := sB_spec (n := ks.length) (b := b) (by omega)
        have h := rwK_get hs.1 (tsK ks.length) (tsK_ok ks.length)
        rw [if_pos (tsK_mem _ _ hs.1), hs.2] at h
        rw [degB_get hb, h, lkR_len]
        rfl) (degB ks).length 0 0 (Nat.zero_add _) (Nat.le_refl _)
      rw [List.drop_zero, Nat.zero_add, ← big_perm (deg_perm ks), ← ends_perm (deg_perm ks)] at h
      exact h
def gz : Option Nat → Int
  | none => 0
  | some n => ((n + 1 : Nat) : Int)
def FarB (n : Nat) (F : List Int) (st : St Stt) : Prop := F.length = 2 ^ n ∧ ∀ s, okN n s → F.getD (bv s) 0 = gz (st.far s)
theorem FarB.set {n : Nat} {F : List Int} {st : St Stt} (h : FarB n F st) {t : Stt} (ht : okN n t) (v : Nat) (q : List Stt) (w : Stt → Int) : FarB n (F.set (bv t) ((v + 1 : Nat) : Int)) ⟨q, Bfs.upd st.far t (some v), w⟩ := by
  refine ⟨by rw [List.length_set]; exact h.1, fun s hs => ?_⟩
  rw [getD_set (by rw [h.1]; exact bvN_lt ht)]
  by_cases e : s = t
  · rw [if_pos (by rw [e])]
    simp [Bfs.upd, e, gz]
  · rw [if_neg (fun h => e (bvN_inj hs ht h.symm)), h.2 s hs]
    simp [Bfs.upd, e]
theorem lkR_len2 (ks : List Stt) (s : Stt) : (lkR ks s).length = (stepK ks s).length := by unfold lkR; rw [List.length_map]
theorem lg_l1 {ks : List Stt} (hk : keysOk ks = true) (rows : List (List Int)) (s0 : Stt) (i : Nat) (u : Stt) (du : Nat) (R : Int) : ∀ (d j : Nat) (st : St Stt) (p : List Stt) (F : List Int),
    j + d = (stepK ks u).length → InvIn (stepK ks) s0 st i u p → GoodS (okN ks.length) st → FarB ks.length F st → Bfs.d st u = du →
    (∀ F', FarB ks.length F' (((stepK ks u).drop j).foldl (relax addC u) st) → Bfs.d (((stepK ks u).drop j).foldl (relax addC u) st) u = du → Ev (fun k => impl_longest.l0 k rows F' ((du + 1 : Nat) : Int) (((((stepK ks u).drop j).foldl (relax addC u) st).q.drop (i + 1)).map bi)) R) →
    Ev (fun k => impl_longest.l1 k rows F ((du + 1 : Nat) : Int) ((st.q.drop i).map bi) (lkR ks u) ((lkR ks u).length : Int) (j : Int)) R := by
  obtain ⟨⟨kl1, kl2⟩, k3⟩ := keys_parts hk
  have hp1 := pow10 kl2
  intro d
  induction d with
  | zero =>
    intro j st p F hj I G hF hdu H
    have hd0 : (stepK ks u).drop j = [] := List.drop_eq_nil_of_le (by omega)
    rw [hd0] at H
    have hlt := I.lt
    have e : ((st.q.drop i).map bi).drop (1 : Int).toNat = (st.q.drop (i + 1)).map bi := by
      rw [show (1 : Int).toNat = 1 from rfl, ← List.map_drop, List.drop_drop]
    have h := H F hF hdu
    simp only [List.foldl_nil] at h
    refine Ev.step (fun k => ?_) h
    simp only [impl_longest.l1]
    rw [if_neg (show ¬ (j : Int) < ((lkR ks u).length : Int) by rw [lkR_len2]; omega), if_pos (show (1 : Int) ≤ (((st.q.drop i).map bi).length : Int) by rw [List.length_map, List.length_drop]; omega), e]
  | succ d ih =>
    intro j st p F hj I G hF hdu H
    have hjl : j < (stepK ks u).length := by omega
    have hjr : j < (lkR ks u).length := by rw [lkR_len2]; exact hjl
    obtain ⟨t, ht⟩ : ∃ t, (stepK ks u)[j] = t := ⟨_, rfl⟩
    have hdr : (stepK ks u).drop j = t :: (stepK ks u).drop (j + 1) := by rw [List.drop_eq_getElem_cons hjl, ht]
    have htm : t ∈ stepK ks u := ht ▸ List.getElem_mem hjl
    have huq : u ∈ st.q := List.mem_of_getElem? I.at_
    have hou := G.ok u huq
    have hot : okN ks.length t := (setupK hk).next u hou t htm
    have huf := (I.iff u).2 huq
    have hlen := G.len (setupK hk) I.nodup
    have hlt := I.lt
    have hdl := G.d huf
    have hml := mvK_len ks u ks.length
    have hsl := step_lenK ks u
    have hrd : rd (lkR ks u) (j : Int) = ((bv t : Nat) : Int) := by
      rw [rd_get hjr]
      have h2 : (lkR ks u)[j] = bi ((stepK ks u)[j]) := List.getElem_map _
      rw [h2, ht]
      rfl
    have hF0 : rd F ((bv t : Nat) : Int) = gz (st.far t) := hF.2 t hot
    have c1 : (j : Int) < ((lkR ks u).length : Int) := Int.ofNat_lt.2 hjr
    have c2 : ((bv t : Nat) : Int) < (F.length : Int) := by rw [hF.1]; exact Int.ofNat_lt.2 (bvN_lt hot)
    have c3 : ((st.q.drop i).map bi).length < 17592186044416 := by rw [List.length_map, List.length_drop]; omega
    have I2 := I.relaxed addC htm
    have G2 := G.relaxed addC huf hot
    rw [hdr] at H
    simp only [List.foldl_cons] at H
    cases hft : st.far t with
    | none =>
      have hut : u ≠ t := fun e => by rw [e, hft] at huf; cases huf
      have hdu2 : Bfs.d (relax addC u st t) u = du := by rw [relax_new hft hut, d_upd_ne hut]; exact hdu
      rw [relax_new hft hut] at I2 G2 hdu2 H
      have hF2 := FarB.set hF hot (Bfs.d st u + 1) (st.q ++ [t]) (Bfs.upd st.ways t (addC (st.ways t) (st.ways u)))
      have h := ih (j + 1) _ _ _ (by omega) I2 G2 hF2 hdu2 H
      have eq : ((st.q ++ [t]).drop i).map bi = (st.q.drop i).map bi ++ [((bv t : Nat) : Int)] := by
        rw [List.drop_append_of_le_length (Nat.le_of_lt hlt), List.map_append]
        rfl
      simp only [] at h
      rw [eq, hdu] at h
      have es : wrap64 (((du + 1 : Nat) : Int) + 1) = ((du + 1 + 1 : Nat) : Int) := succ64 (by omega)
      refine Ev.step (fun k => ?_) h
      simp only [impl_longest.l1]
      rw [if_pos c1, if_pos (Int.natCast_nonneg _), if_pos c1, hrd, if_pos (Int.natCast_nonneg _), if_pos c2, hF0, hft, if_pos (show gz none = 0 from rfl), if_pos c3, Int.toNat_natCast, es, succ64 (by omega)]
    | some v =>
      have hne : ¬ gz (some v) = 0 := by
        show ¬ ((v + 1 : Nat) : Int) = 0
        omega
      have hF2 : FarB ks.length F (relax addC u st t) := ⟨hF.1, fun s hs => by rw [hF.2 s hs, (relax_q_far addC u st t).2, hft]; rfl⟩
      have hq2 : (relax addC u st t).q = st.q := by rw [(relax_q_far addC u st t).1, hft]; rfl
      have hdu2 : Bfs.d (relax addC u st t) u = du := by unfold Bfs.d; rw [(relax_q_far addC u st t).2, hft]; exact hdu
      have h := ih (j + 1) _ _ _ (by omega) I2 G2 hF2 hdu2 H
      rw [hq2] at h
      refine Ev.step (fun k => ?_) h
      simp only [impl_longest.l1]
      rw [if_pos c1, if_pos (Int.natCast_nonneg _), if_pos c1, hrd, if_pos (Int.natCast_nonneg _), if_pos c2, hF0, hft, if_neg hne, succ64 (by omega)]
def lastD (st : St Stt) : Nat := Bfs.d st (st.q.getD (st.q.length - 1) [])
theorem lg_l0 {ks : List Stt} (hk : keysOk ks = true) (rows : List (List Int)) (hrl : rows.length = 2 ^ ks.length) (hrw : ∀ s, okN ks.length s → rows.getD (bv s) [] = lkR ks s) (s0 : Stt) : ∀ (m i : Nat) (st : St Stt) (F : List Int) (x6 : Int), Inv (stepK ks) s0 st i → GoodS (okN ks.length) st → FarB ks.length F st → 2 ^ ks.length ≤ i + m →
    (0 < i → x6 = ((Bfs.d st (st.q.getD (i - 1) []) + 1 : Nat) : Int)) →
    Ev (fun k => impl_longest.l0 k rows F x6 ((st.q.drop i).map bi)) ((lastD (run addC (stepK ks) m i st) : Nat) : Int) := by
  obtain ⟨⟨kl1, kl2⟩, k3⟩ := keys_parts hk
  have hp1 := pow10 kl2
  have fin : ∀ (i : Nat) (st : St Stt) (F : List Int) (x6 : Int), Inv (stepK ks) s0 st i → GoodS (okN ks.length) st → ¬ i < st.q.length → (0 < i → x6 = ((Bfs.d st (st.q.getD (i - 1) []) + 1 : Nat) : Int)) →
      Ev (fun k => impl_longest.l0 k rows F x6 ((st.q.drop i).map bi)) ((lastD st : Nat) : Int) := by
    intro i st F x6 I G hi hx
    have hle := I.le
    have hpos := I.pos
    have hlen := G.len (setupK hk) I.nodup
    obtain rfl : i = st.q.length := by omega
    have hx6 := hx hpos
    have hm : st.q.getD (st.q.length - 1) [] ∈ st.q := by
      rw [List.getD_eq_getElem?_getD, List.getElem?_eq_getElem (show st.q.length - 1 < st.q.length by omega)]
      exact List.getElem_mem _
    have hb := G.d ((I.iff _).2 hm)
    rw [List.drop_length]
    refine Ev.step (f := fun _ => some ((lastD st : Nat) : Int)) (fun k => ?_) (Ev.now _)
    simp only [impl_longest.l0]
    rw [if_neg (show ¬ ((([] : List Stt).map bi).length : Int) > 0 by decide), hx6]
    congr 1
    unfold lastD
    rw [w64 (by omega) (by omega)]
    omega
  intro m
  induction m with
  | zero =>
    intro i st F x6 I G hF hN hx
    have h1 := G.len (setupK hk) I.nodup
    exact fin i st F x6 I G (by omega) hx
  | succ m ih =>
    intro i st F x6 I G hF hN hx
    by_cases hi : i < st.q.length
    · obtain ⟨u, hu⟩ : ∃ u, st.q[i] = u := ⟨_, rfl⟩
      have hin := I.enter hi
      rw [hu] at hin
      have hou : okN ks.length u := hu ▸ G.ok _ (List.getElem_mem hi)
      have I2 := I.process addC hi
      rw [hu] at I2
      have G2 : GoodS (okN ks.length) (process addC (stepK ks) st u) := GoodS.foldl addC (stepK ks u) st [] hin G (fun t ht => ht) ((setupK hk).next u hou)
      have hIn2 : InvIn (stepK ks) s0 (process addC (stepK ks) st u) i u ([] ++ stepK ks u) := InvIn.foldl addC (stepK ks u) st [] hin (fun t ht => ht)
      have hrun : run addC (stepK ks) (m + 1) i st = run addC (stepK ks) m (i + 1) (process addC (stepK ks) st u) := by
        conv => lhs; unfold run
        rw [dif_pos hi, hu]
      rw [hrun]
      have huf := (hin.iff u).2 (List.mem_of_getElem? hin.at_)
      obtain ⟨du, hdu⟩ := Option.isSome_iff_exists.1 huf
      have hd : Bfs.d st u = du := by simp [Bfs.d, hdu]
      have h := lg_l1 hk rows s0 i u du ((lastD (run addC (stepK ks) m (i + 1) (process addC (stepK ks) st u)) : Nat) : Int) (stepK ks u).length 0 st [] F (Nat.zero_add _) hin G hF hd (fun F' hF' hd' => by
        rw [List.drop_zero] at hF' hd' ⊢
        refine ih (i + 1) _ F' _ I2 G2 hF' (by omega) (fun _ => ?_)
        have e : (process addC (stepK ks) st u).q.getD (i + 1 - 1) [] = u := by
          rw [Nat.add_sub_cancel, List.getD_eq_getElem?_getD, hIn2.at_]
          rfl
        have e2 : Bfs.d (process addC (stepK ks) st u) u = du := hd'
        show ((du + 1 : Nat) : Int) = ((Bfs.d (process addC (stepK ks) st u) ((process addC (stepK ks) st u).q.getD (i + 1 - 1) []) + 1 : Nat) : Int)
        rw [e, e2])
      have hll : (st.q.drop i).map bi = ((bv u : Nat) : Int) :: (st.q.drop (i + 1)).map bi := by
        rw [List.drop_eq_getElem_cons hi, hu]
        rfl
      have e0 : rd ((st.q.drop i).map bi) 0 = ((bv u : Nat) : Int) := by rw [hll]; rfl
      have c0 : ((((st.q.drop i).map bi).length : Nat) : Int) > 0 := by rw [hll, List.length_cons]; omega
      have c1 : ((bv u : Nat) : Int) < (F.length : Int) := by rw [hF.1]; exact Int.ofNat_lt.2 (bvN_lt hou)
      have c2 : ((bv u : Nat) : Int) < (rows.length : Int) := by rw [hrl]; exact Int.ofNat_lt.2 (bvN_lt hou)
      have eF : rd F ((bv u : Nat) : Int) = ((du + 1 : Nat) : Int) := by
        have h := hF.2 u hou
        rw [hdu] at h
        exact h
      have eR : rd_L2 rows ((bv u : Nat) : Int) = lkR ks u := hrw u hou
      refine Ev.step (fun k => ?_) h
      simp only [impl_longest.l0]
      rw [if_pos c0, if_pos c0, e0, if_pos (Int.natCast_nonneg _), if_pos c1, if_pos c2, eF, eR]
      rfl
    · have hrun : run addC (stepK ks) (m + 1) i st = st := by
        conv => lhs; unfold run
        rw [dif_neg hi]
      rw [hrun]
      exact fin i st F x6 I G hi hx
def TK (ks : List Stt) (s : Stt) : Nat := lastD (foundK ks s)
theorem longest {ks : List Stt} (hk : keysOk ks = true) {s : Stt} (hs : okN ks.length s) : Ev (fun k => impl_longest.f k (rwK ks (tsK ks.length)) ((bv s : Nat) : Int)) ((TK ks s : Nat) : Int) := by
  obtain ⟨⟨kl1, kl2⟩, k3⟩ := keys_parts hk
  have hp := pow10 kl2
  have hb := bvN_lt hs
  have hrl := rwK_len ks (tsK ks.length)
  have hF0 : FarB ks.length ((List.replicate (2 ^ ks.length) (0 : Int)).set (bv s) 1) (init s) := by
    refine ⟨by rw [List.length_set, List.length_replicate], fun t ht => ?_⟩
    rw [getD_set (by rw [List.length_replicate]; exact hb)]
    by_cases e : t = s
    · rw [if_pos (by rw [e])]
      simp [init, e, gz]
    · rw [if_neg (fun h => e (bvN_inj ht hs h.symm))]
      rw [List.getD_eq_getElem?_getD, List.getElem?_replicate, if_pos (bvN_lt ht)]
      simp [init, e, gz]
  have h := lg_l0 hk (rwK ks (tsK ks.length)) hrl (fun t ht => by rw [rwK_get ht _ (tsK_ok ks.length), if_pos (tsK_mem _ _ ht)]) s (2 ^ ks.length) 0 (init s) _ 1 (Inv.start _ _) (GoodS.start hs) hF0 (by omega) (fun h => absurd h (Nat.lt_irrefl 0))
  unfold impl_longest.f
  refine Ev.congr (fun k => ?_) h
  rw [hrl, if_pos (Int.natCast_nonneg _), Int.toNat_natCast, if_pos (by omega), obind, if_pos (Int.natCast_nonneg _), if_pos (by rw [List.length_replicate]; exact Int.ofNat_lt.2 hb), Int.toNat_natCast]
  rfl
theorem TK_facts {ks : List Stt} (hk : keysOk ks = true) {s : Stt} (hs : okN ks.length s) : (∀ t n, (foundK ks s).far t = some n → n ≤ TK ks s) ∧ TK ks s < 1025 ∧ ∃ t, okN ks.length t ∧ (foundK ks s).far t = some (TK ks s) := by
  obtain ⟨⟨kl1, kl2⟩, k3⟩ := keys_parts hk
  have hp := pow10 kl2
  obtain ⟨I, G⟩ := found_good (setupK hk) hs
  have hlen := G.len (setupK hk) I.nodup
  have hpos := I.pos
  have hl : (found (stepK ks) (2 ^ ks.length) s).q.length - 1 < (found (stepK ks) (2 ^ ks.length) s).q.length := by omega
  have he : (found (stepK ks) (2 ^ ks.length) s).q.getD ((found (stepK ks) (2 ^ ks.length) s).q.length - 1) [] = (found (stepK ks) (2 ^ ks.length) s).q[(found (stepK ks) (2 ^ ks.length) s).q.length - 1] := by
    rw [List.getD_eq_getElem?_getD, List.getElem?_eq_getElem hl]
    rfl
  have hT : TK ks s = Bfs.d (found (stepK ks) (2 ^ ks.length) s) ((found (stepK ks) (2 ^ ks.length) s).q[(found (stepK ks) (2 ^ ks.length) s).q.length - 1]) := by
    rw [← he]
    rfl
  have hmem := List.getElem_mem hl
  have hsome := (I.iff _).2 hmem
  refine ⟨fun t n h => ?_, ?_, _, G.ok _ hmem, ?_⟩
  · have h' : (found (stepK ks) (2 ^ ks.length) s).far t = some n := h
    have hq := (I.iff t).1 (by rw [h']; rfl)
    obtain ⟨j, hj, e⟩ := List.getElem_of_mem hq
    have hm := I.mono j _ hj hl (by omega)
    rw [← hT, e] at hm
    have hd : Bfs.d (found (stepK ks) (2 ^ ks.length) s) t = n := by simp [Bfs.d, h']
    omega
  · have := G.d hsome
    rw [← hT] at this
    omega
  · obtain ⟨v, hv⟩ := Option.isSome_iff_exists.1 hsome
    have hd : Bfs.d (found (stepK ks) (2 ^ ks.length) s) ((found (stepK ks) (2 ^ ks.length) s).q[(found (stepK ks) (2 ^ ks.length) s).q.length - 1]) = v := by simp [Bfs.d, hv]
    rw [hT, hd]
    exact hv
def upM (g : Nat → Nat) : Nat → Nat
  | 0 => 0
  | n + 1 => max (upM g n) (g n)
theorem upM_le (g : Nat → Nat) (c : Nat) : ∀ n, (∀ i, i < n → g i ≤ c) → upM g n ≤ c
  | 0, _ => Nat.zero_le _
  | n + 1, h => Nat.max_le.2 ⟨upM_le g c n (fun i hi => h i (by omega)), h n (by omega)⟩
theorem le_upM (g : Nat → Nat) : ∀ n i, i < n → g i ≤ upM g n
  | 0, i, h => absurd h (Nat.not_lt_zero i)
  | n + 1, i, h => by
    by_cases e : i = n
    · rw [e]; exact Nat.le_max_right _ _
    · exact Nat.le_trans (le_upM g n i (by omega)) (Nat.le_max_left _ _)
theorem same_max (ks : List Stt) (n : Nat) : upM (fun i => TK ks (stOf n i)) (2 ^ n) = upM (fun b => TK ks (sB n b)) (2 ^ n) := by
  apply Nat.le_antisymm
  · refine upM_le _ _ _ (fun i hi => ?_)
    have ho : okN n (stOf n i) := ⟨stOf_length _ _, stOf_ok _ _⟩
    have hb := bvN_lt ho
    have hs := sB_spec hb
    have e : sB n (bv (stOf n i)) = stOf n i := bvN_inj hs.1 ho hs.2
    have h := le_upM (fun b => TK ks (sB n b)) (2 ^ n) (bv (stOf n i)) hb
    simp only [e] at h
    exact h
  · refine upM_le _ _ _ (fun b hb => ?_)
    have hs := sB_spec hb
    have hn := numN_lt hs.1
    have e : stOf n (num (sB n b)) = sB n b := by
      have := stOf_num (sB n b) hs.1.2
      rwa [hs.1.1] at this
    have h := le_upM (fun i => TK ks (stOf n i)) (2 ^ n) (num (sB n b)) hn
    simp only [e] at h
    exact h
theorem impl_max {ks : List Stt} (hk : keysOk ks = true) : Ev (fun k => impl_LongestByKeys.l0 k (rwK ks (tsK ks.length)) 0 ((2 ^ ks.length : Nat) : Int) 0) (((upM (fun b => TK ks (sB ks.length b)) (2 ^ ks.length) : Nat) : Int), true) := by
  obtain ⟨⟨kl1, kl2⟩, k3⟩ := keys_parts hk
  have hp := pow10 kl2
  have go : ∀ d i, i + d = 2 ^ ks.length → Ev (fun k => impl_LongestByKeys.l0 k (rwK ks (tsK ks.length)) ((upM (fun b => TK ks (sB ks.length b)) i : Nat) : Int) ((2 ^ ks.length : Nat) : Int) (i : Int)) (((upM (fun b => TK ks (sB ks.length b)) (2 ^ ks.length) : Nat) : Int), true) := by
    intro d
    induction d with
    | zero =>
      intro i hi
      obtain rfl : i = 2 ^ ks.length := by omega
      refine Ev.step (f := fun _ => some (((upM (fun b => TK ks (sB ks.length b)) (2 ^ ks.length) : Nat) : Int), true)) (fun k => ?_) (Ev.now _)
      simp only [impl_LongestByKeys.l0]
      rw [if_neg (Int.lt_irrefl _)]
    | succ d ih =>
      intro i hi
      have hil : i < 2 ^ ks.length := by omega
      have hs := sB_spec hil
      have hl := longest hk hs.1
      rw [hs.2] at hl
      have e : mx ((upM (fun b => TK ks (sB ks.length b)) i : Nat) : Int) ((TK ks (sB ks.length i) : Nat) : Int) = ((upM (fun b => TK ks (sB ks.length b)) (i + 1) : Nat) : Int) := by
        have e2 : upM (fun b => TK ks (sB ks.length b)) (i + 1) = max (upM (fun b => TK ks (sB ks.length b)) i) (TK ks (sB ks.length i)) := rfl
        rw [e2]
        unfold mx
        split <;> omega
      refine ev_num hl (ih (i + 1) (by omega)) (fun k hk' => ?_)
      have hk2 : impl_longest.f k (rwK ks (tsK ks.length)) (i : Int) = some ((TK ks (sB ks.length i) : Nat) : Int) := hk'
      simp only [impl_LongestByKeys.l0]
      rw [if_pos (Int.ofNat_lt.2 hil), hk2, obind, e, succ64 (by omega)]
  exact go (2 ^ ks.length) 0 (Nat.zero_add _)
theorem spec_l1 {ks : List Stt} (hk : keysOk ks = true) {s : Stt} (hs : okN ks.length s) (F : List Int) (hF : FarN ks.length F (foundK ks s)) (a : Nat) (x5 : Int) (R : Int × Bool)
    (H : Ev (fun k => spec_LongestByKeys.l0 k (ks.map tx) ((max a (TK ks s) : Nat) : Int) (wrap64 (x5 + 1))) R) : ∀ d j (c : Nat), j + d = 2 ^ ks.length → a ≤ c → c ≤ max a (TK ks s) → (∀ i, i < j → F.getD i 0 ≤ (c : Int)) →
    Ev (fun k => spec_LongestByKeys.l1 k (ks.map tx) (c : Int) x5 F (F.length : Int) (j : Int)) R := by
  obtain ⟨⟨kl1, kl2⟩, k3⟩ := keys_parts hk
  have hp := pow10 kl2
  obtain ⟨h1, h2, t, ht, h3⟩ := TK_facts hk hs
  intro d
  induction d with
  | zero =>
    intro j c hj ha hc hall
    have hb := hall (num t) (by have := numN_lt ht; omega)
    rw [hF.2 t ht, h3] at hb
    have hb2 : ((TK ks s : Nat) : Int) ≤ (c : Int) := hb
    obtain rfl : c = max a (TK ks s) := by omega
    refine Ev.step (fun k => ?_) H
    simp only [spec_LongestByKeys.l1]
    rw [hF.1, if_neg (by omega)]
  | succ d ih =>
    intro j c hj ha hc hall
    have hjl : j < F.length := by rw [hF.1]; omega
    have ho : okN ks.length (stOf ks.length j) := ⟨stOf_length _ _, stOf_ok _ _⟩
    have hv := hF.2 _ ho
    rw [num_stOf ks.length j (by omega)] at hv
    have hrd : rd F (j : Int) = F.getD j 0 := rfl
    obtain ⟨c', e1, e2, e3, e4⟩ : ∃ c' : Nat, spec_l1Most.f (c : Int) (F.getD j 0) = some (c' : Int) ∧ a ≤ c' ∧ c' ≤ max a (TK ks s) ∧ ((c : Int) ≤ (c' : Int) ∧ F.getD j 0 ≤ (c' : Int)) := by
      unfold spec_l1Most.f
      by_cases hgt : (c : Int) > F.getD j 0
      · exact ⟨c, if_pos hgt, ha, hc, Int.le_refl _, by omega⟩
      · rw [hv] at hgt ⊢
        cases hf : (foundK ks s).far (stOf ks.length j) with
        | none =>
          rw [hf] at hgt
          have : fz none = -1 := rfl
          omega
        | some v =>
          rw [hf] at hgt
          have e : fz (some v) = (v : Int) := rfl
          rw [e] at hgt
          have hb := h1 _ _ hf
          exact ⟨v, by rw [e, if_neg hgt], by omega, by omega, by omega, by rw [e]; exact Int.le_refl _⟩
    have h := ih (j + 1) c' (by omega) e2 e3 (fun i hi => by
      by_cases h : i = j
      · rw [h]; exact e4.2
      · exact Int.le_trans (hall i (by omega)) e4.1)
    refine Ev.step (fun k => ?_) h
    simp only [spec_LongestByKeys.l1]
    rw [if_pos (Int.ofNat_lt.2 hjl), if_pos (Int.natCast_nonneg _), if_pos (Int.ofNat_lt.2 hjl), hrd, e1, obind, succ64 (by omega)]
theorem spec_max {ks : List Stt} (hk : keysOk ks = true) : Ev (fun k => spec_LongestByKeys.l0 k (ks.map tx) 0 0) (((upM (fun i => TK ks (stOf ks.length i)) (2 ^ ks.length) : Nat) : Int), true) := by
  obtain ⟨⟨kl1, kl2⟩, k3⟩ := keys_parts hk
  have hp := pow10 kl2
  have go : ∀ d i, i + d = 2 ^ ks.length → Ev (fun k => spec_LongestByKeys.l0 k (ks.map tx) ((upM (fun i => TK ks (stOf ks.length i)) i : Nat) : Int) (i : Int)) (((upM (fun i => TK ks (stOf ks.length i)) (2 ^ ks.length) : Nat) : Int), true) := by
    intro d
    induction d with
    | zero =>
      intro i hi
      obtain rfl : i = 2 ^ ks.length := by omega
      refine Ev.step (f := fun _ => some (((upM (fun i => TK ks (stOf ks.length i)) (2 ^ ks.length) : Nat) : Int), true)) (fun k => ?_) (Ev.now _)
      simp only [spec_LongestByKeys.l0]
      rw [List.length_map, shl_one ks.length (by omega), if_neg (Int.lt_irrefl _)]
    | succ d ih =>
      intro i hi
      have hil : i < 2 ^ ks.length := by omega
      have ho : okN ks.length (stOf ks.length i) := ⟨stOf_length _ _, stOf_ok _ _⟩
      have hr : Ev (fun k => spec_riState.f k (ks.length : Int) (i : Int)) (tx (stOf ks.length i)) := riState ks.length i (by omega) (by omega)
      obtain ⟨F, W, hF, e⟩ := keFar hk ho
      have h := spec_l1 hk ho F hF (upM (fun i => TK ks (stOf ks.length i)) i) (i : Int) (((upM (fun i => TK ks (stOf ks.length i)) (2 ^ ks.length) : Nat) : Int), true) (by
        rw [succ64 (by omega)]
        exact ih (i + 1) (by omega)) (2 ^ ks.length) 0 (upM (fun i => TK ks (stOf ks.length i)) i) (Nat.zero_add _) (Nat.le_refl _) (Nat.le_max_left _ _) (fun i hi => absurd hi (Nat.not_lt_zero i))
      refine Ev.step (f := fun k => (spec_riState.f k (ks.length : Int) (i : Int)).bind fun t149 => ((spec_keFar.f k (ks.map tx) t149).bind fun bt150 => (spec_LongestByKeys.l1 k (ks.map tx) ((upM (fun i => TK ks (stOf ks.length i)) i : Nat) : Int) (i : Int) bt150.1 (bt150.1.length : Int) 0))) (fun k => ?_) (Ev.bind hr (Ev.bind e h))
      simp only [spec_LongestByKeys.l0]
      rw [List.length_map, shl_one ks.length (by omega), if_pos (Int.ofNat_lt.2 hil)]
  exact go (2 ^ ks.length) 0 (Nat.zero_add _)
def longK (ks : List Stt) : Nat := upM (fun i => TK ks (stOf ks.length i)) (2 ^ ks.length)
def longV (ks : List Stt) : Int × Bool := if keysOk ks = true then (((longK ks : Nat) : Int), true) else (0, false)
theorem long_both (ks : List Stt) (hn : ks.length ≤ 1048576) : Ev (fun k => spec_LongestByKeys.f k (ks.map tx)) (longV ks) ∧ Ev (fun k => impl_LongestByKeys.f k (ks.map tx)) (longV ks) := by
  unfold longV longK
  cases hk : keysOk ks with
  | false =>
    rw [if_neg Bool.false_ne_true]
    refine ⟨?_, ?_⟩
    · unfold spec_LongestByKeys.f
      refine Ev.bind (keGood ks (by omega)) ?_
      rw [hk]
      exact Ev.congr (fun k => if_neg (by simp)) (Ev.now _)
    · unfold impl_LongestByKeys.f
      refine Ev.bind (areKeys ks (by omega)) ?_
      rw [hk]
      exact Ev.congr (fun k => if_neg (by simp)) (Ev.now _)
  | true =>
    rw [if_pos rfl]
    refine ⟨?_, ?_⟩
    · unfold spec_LongestByKeys.f
      refine Ev.bind (keGood ks (by omega)) ?_
      rw [hk]
      exact Ev.congr (fun k => if_pos rfl) (spec_max hk)
    · unfold impl_LongestByKeys.f
      refine Ev.bind (areKeys ks (by omega)) ?_
      rw [hk]
      refine Ev.congr (fun k => if_pos rfl) (Ev.bind (rows hk) ?_)
      rw [rwK_len, same_max]
      exact impl_max hk
theorem bits {n : Nat} {s : Stt} (hs : okN n s) (hn : n ≤ 10) : ∃ b : Nat, b < 2 ^ n ∧ Ev (fun k => impl_bits.f k (tx s)) (b : Int) := by
  obtain ⟨h1, h2⟩ := hs
  have h10 : (2 : Nat) ^ n ≤ 2 ^ 10 := Nat.pow_le_pow_right (by decide) hn
  have go : ∀ j v : Nat, j ≤ n → v < 2 ^ (n - j) → ∃ b : Nat, b < 2 ^ n ∧ Ev (fun k => impl_bits.l0 k (tx s) (v : Int) ((j : Int) - 1)) (b : Int) := by
    intro j
    induction j with
    | zero =>
      intro v _ hv
      refine ⟨v, by simpa using hv, Ev.step (f := fun _ => some (v : Int)) (fun k => ?_) (Ev.now _)⟩
      simp only [impl_bits.l0]
      rw [if_neg (by omega)]
    | succ j ih =>
      intro v hj hv
      have hjl : j < s.length := by omega
      have hpw : 2 ^ (n - j) = 2 ^ (n - (j + 1)) * 2 := by rw [← Nat.pow_succ]; congr 1; omega
      have hple : (2 : Nat) ^ (n - (j + 1)) ≤ 2 ^ 10 := Nat.pow_le_pow_right (by decide) (by omega)
      have h1024 : (2 : Nat) ^ 10 = 1024 := by decide
      have hc := okc_or (List.all_eq_true.1 h2 _ (List.getElem_mem hjl))
      obtain ⟨d, hd, he⟩ : ∃ d : Nat, d ≤ 1 ∧ ((s[j].toNat : Int) - 48) % 256 = (d : Int) := by
        rcases hc with h | h
        · exact ⟨0, by decide, by rw [h]; decide⟩
        · exact ⟨1, by decide, by rw [h]; decide⟩
      obtain ⟨b, hb, e⟩ := ih (2 * v + d) (by omega) (by omega)
      refine ⟨b, hb, Ev.step (fun k => ?_) e⟩
      have e0 : ((j + 1 : Nat) : Int) - 1 = (j : Int) := by omega
      have e1 : wrap64 (2 * (v : Int)) = ((2 * v : Nat) : Int) := by rw [w64 (by omega) (by omega)]; omega
      have e2 : wrap64 (((2 * v : Nat) : Int) + (d : Int)) = ((2 * v + d : Nat) : Int) := by rw [w64 (by omega) (by omega)]; omega
      have e3 : wrap64 ((j : Int) - 1) = (j : Int) - 1 := w64 (by omega) (by omega)
      simp only [impl_bits.l0]
      rw [e0, if_pos (show (j : Int) ≥ 0 from Int.natCast_nonneg j), if_pos (Int.natCast_nonneg j), tx_size, if_pos (Int.ofNat_lt.2 hjl), bt_tx hjl, he, e1, e2, e3]
  obtain ⟨b, hb, e⟩ := go n 0 (Nat.le_refl _) (by rw [Nat.sub_self]; decide)
  refine ⟨b, hb, ?_⟩
  unfold impl_bits.f
  have e3 : wrap64 ((n : Int) - 1) = (n : Int) - 1 := w64 (by omega) (by omega)
  rw [tx_size, h1, e3]
  exact e
def totL (rows : List (List Int)) : Nat := (rows.map List.length).sum
theorem tot_set (x : Int) : ∀ (rows : List (List Int)) (b : Nat), b < rows.length → totL (rows.set b (rows.getD b [] ++ [x])) = totL rows + 1
  | [], b, h => absurd h (Nat.not_lt_zero b)
  | r :: rows, 0, h => by
    simp only [totL, List.set_cons_zero, List.map_cons, List.sum_cons, List.getD_cons_zero, List.length_append, List.length_singleton]
    omega
  | r :: rows, b + 1, h => by
    have ih := tot_set x rows b (by simpa using h)
    simp only [totL, List.set_cons_succ, List.map_cons, List.sum_cons, List.getD_cons_succ] at ih ⊢
    omega
theorem len_tot : ∀ (rows : List (List Int)) (b : Nat), (rows.getD b []).length ≤ totL rows
  | [], b => by simp [totL]
  | r :: rows, 0 => by simp [totL]
  | r :: rows, b + 1 => by
    have ih := len_tot rows b
    simp only [totL, List.map_cons, List.sum_cons, List.getD_cons_succ] at ih ⊢
    omega
theorem tot_rep (n : Nat) : totL (List.replicate n []) = 0 := by
  induction n with
  | zero => rfl
  | succ n ih => simp only [totL, List.replicate_succ, List.map_cons, List.sum_cons, List.length_nil] at ih ⊢; omega
theorem links_l1 (ks : List Stt) (n : Nat) (hn : n ≤ 10) (T : Nat) (hT : T ≤ 1000000) (L : List ByteArray) (x15 x16 : Int) (s : Stt) (hs : okN n s) (M : List Nat) (hM : M.length ≤ 1000000) (Q : List (List Int) → Prop)
    (H : ∀ rows : List (List Int), rows.length = 2 ^ n → totL rows = T → ∃ R, Ev (fun k => impl_keyedLinks.l0 k (ks.map tx) rows L x15 (wrap64 (x16 + 1))) R ∧ Q R) : ∀ d j (rows : List (List Int)), j + d = M.length → rows.length = 2 ^ n → totL rows + d = T →
    ∃ R, Ev (fun k => impl_keyedLinks.l1 k (ks.map tx) rows (tx s) L x15 x16 (ints M) ((ints M).length : Int) (j : Int)) R ∧ Q R := by
  have lM : (ints M).length = M.length := by unfold ints; rw [List.length_map]
  obtain ⟨b, hb, eb⟩ := bits hs hn
  intro d
  induction d with
  | zero =>
    intro j rows hj hl ht
    obtain rfl : j = M.length := by omega
    obtain ⟨R, h, hQ⟩ := H rows hl ht
    refine ⟨R, Ev.step (fun k => ?_) h, hQ⟩
    simp only [impl_keyedLinks.l1]
    rw [lM, if_neg (Int.lt_irrefl _)]
  | succ d ih =>
    intro j rows hj hl ht
    have hjl : j < M.length := by omega
    have hrd : rd (ints M) (j : Int) = ((M[j] : Nat) : Int) := by
      rw [rd_get (by rw [lM]; exact hjl)]
      simp [ints]
    have e2 : rd_L2 rows (b : Int) = rows.getD b [] := rfl
    have hlt := len_tot rows b
    have hbr : b < rows.length := by rw [hl]; exact hb
    have ht2 := tot_set (Go.bits .xor .i64 (b : Int) (shl .i64 1 ((M[j] : Nat) : Int))) rows b hbr
    obtain ⟨R, h, hQ⟩ := ih (j + 1) (rows.set b (rows.getD b [] ++ [Go.bits .xor .i64 (b : Int) (shl .i64 1 ((M[j] : Nat) : Int))])) (by omega) (by rw [List.length_set]; exact hl) (by omega)
    refine ⟨R, ev_num eb h (fun k hk => ?_), hQ⟩
    have hk' : impl_bits.f k (tx s) = some (b : Int) := hk
    have c1 : (j : Int) < ((ints M).length : Int) := by rw [lM]; exact Int.ofNat_lt.2 hjl
    simp only [impl_keyedLinks.l1]
    rw [if_pos c1, if_pos (Int.natCast_nonneg _), if_pos c1, hk', obind, obind, if_pos (Int.natCast_nonneg _), if_pos (Int.ofNat_lt.2 hbr), obind, hrd, if_pos (Int.natCast_nonneg _), e2, if_pos (show (rows.getD b []).length < 17592186044416 by omega), Int.toNat_natCast, succ64 (by omega)]
theorem links {ks : List Stt} (hk : keysOk ks = true) : ∃ R : List (List Int), R.length = 2 ^ ks.length ∧ totL R = sumS (gK ks) (tsK ks.length) ∧ Ev (fun k => impl_keyedLinks.f k (ks.map tx)) R := by
  obtain ⟨⟨k1, k2⟩, k3⟩ := keys_parts hk
  have h10 : (2 : Nat) ^ ks.length ≤ 2 ^ 10 := Nat.pow_le_pow_right (by decide) k2
  have h1024 : (2 : Nat) ^ 10 = 1024 := by decide
  have hlen := tsK_length ks.length
  have hT := sumS_le (gK ks) 10 (tsK ks.length) (fun s hs => Nat.le_trans (mvK_len ks s ks.length) k2)
  have lL : ((tsK ks.length).map tx).length = (tsK ks.length).length := List.length_map _
  have go : ∀ d i (rows : List (List Int)), i + d = (tsK ks.length).length → rows.length = 2 ^ ks.length → totL rows + sumS (gK ks) ((tsK ks.length).drop i) = sumS (gK ks) (tsK ks.length) →
      ∃ R : List (List Int), Ev (fun k => impl_keyedLinks.l0 k (ks.map tx) rows ((tsK ks.length).map tx) (((tsK ks.length).map tx).length : Int) (i : Int)) R ∧ (R.length = 2 ^ ks.length ∧ totL R = sumS (gK ks) (tsK ks.length)) := by
    intro d
    induction d with
    | zero =>
      intro i rows hi hl ht
      obtain rfl : i = (tsK ks.length).length := by omega
      rw [List.drop_length] at ht
      refine ⟨rows, Ev.step (f := fun _ => some rows) (fun k => ?_) (Ev.now _), hl, ht⟩
      simp only [impl_keyedLinks.l0]
      rw [lL, if_neg (Int.lt_irrefl _)]
    | succ d ih =>
      intro i rows hi hl ht
      have hil : i < (tsK ks.length).length := by omega
      have hs := tsK_ok ks.length _ (List.getElem_mem hil)
      have hm := keyedMoves hk hs
      have c1 : (i : Int) < (((tsK ks.length).map tx).length : Int) := by rw [lL]; exact Int.ofNat_lt.2 hil
      rw [List.drop_eq_getElem_cons hil] at ht
      have ht2 : totL rows + ((mvK ks (tsK ks.length)[i] ks.length).length + sumS (gK ks) ((tsK ks.length).drop (i + 1))) = sumS (gK ks) (tsK ks.length) := ht
      have hml := mvK_len ks (tsK ks.length)[i] ks.length
      obtain ⟨R, h, hQ⟩ := links_l1 ks ks.length k2 (totL rows + (mvK ks (tsK ks.length)[i] ks.length).length) (by omega) ((tsK ks.length).map tx) (((tsK ks.length).map tx).length : Int) (i : Int) (tsK ks.length)[i] hs (mvK ks (tsK ks.length)[i] ks.length) (by omega)
        (fun R => R.length = 2 ^ ks.length ∧ totL R = sumS (gK ks) (tsK ks.length)) (fun rows' hl' ht' => by
          rw [succ64 (by omega)]
          exact ih (i + 1) rows' (by omega) hl' (by omega)) (mvK ks (tsK ks.length)[i] ks.length).length 0 rows (Nat.zero_add _) hl rfl
      refine ⟨R, ev_num hm h (fun k hk' => ?_), hQ⟩
      have hk2 : impl_keyedMoves.f k (ks.map tx) (tx (tsK ks.length)[i]) = some (ints (mvK ks (tsK ks.length)[i] ks.length)) := hk'
      simp only [impl_keyedLinks.l0]
      rw [if_pos c1, if_pos (Int.natCast_nonneg _), if_pos c1, rdK hil, hk2, obind]
      rfl
  obtain ⟨R, h, h1, h2⟩ := go (tsK ks.length).length 0 (List.replicate (2 ^ ks.length) []) (Nat.zero_add _) List.length_replicate (by rw [tot_rep, Nat.zero_add]; rfl)
  refine ⟨R, h1, h2, ?_⟩
  unfold impl_keyedLinks.f
  rw [List.length_map, shl_one ks.length (by omega)]
  refine Ev.congr (fun k => by rw [if_pos (Int.natCast_nonneg _), Int.toNat_natCast, if_pos (by omega)]) (Ev.bind (textStates ks.length k2) h)
theorem tot_take (rows : List (List Int)) (i : Nat) (h : i < rows.length) : totL (rows.take (i + 1)) = totL (rows.take i) + rows[i].length := by
  unfold totL
  rw [List.take_succ_eq_append_getElem h, List.map_append, List.sum_append]
  simp
theorem tot_take_le (rows : List (List Int)) (i : Nat) : totL (rows.take i) ≤ totL rows := by
  have : totL rows = totL (rows.take i) + totL (rows.drop i) := by
    unfold totL
    rw [← List.sum_append, ← List.map_append, List.take_append_drop]
  omega
theorem sum_impl (R : List (List Int)) (hl : R.length ≤ 1000000) (ht : totL R ≤ 1000000) : Ev (fun k => impl_LinksByKeys.l0 k 0 R (R.length : Int) 0) (wrap64 (Int.tdiv (totL R : Int) 2), true) := by
  have go : ∀ d i, i + d = R.length → Ev (fun k => impl_LinksByKeys.l0 k (totL (R.take i) : Int) R (R.length : Int) (i : Int)) (wrap64 (Int.tdiv (totL R : Int) 2), true) := by
    intro d
    induction d with
    | zero =>
      intro i hi
      obtain rfl : i = R.length := by omega
      rw [List.take_length]
      refine Ev.step (f := fun _ => some (wrap64 (Int.tdiv (totL R : Int) 2), true)) (fun k => ?_) (Ev.now _)
      simp only [impl_LinksByKeys.l0]
      rw [if_neg (Int.lt_irrefl _)]
    | succ d ih =>
      intro i hi
      have hil : i < R.length := by omega
      have h1 := tot_take R i hil
      have h2 := tot_take_le R (i + 1)
      have e : rd_L2 R (i : Int) = R[i] := by
        show R.getD i [] = R[i]
        simp [List.getD, hil]
      have e2 : wrap64 ((totL (R.take i) : Int) + ((R[i]).length : Int)) = (totL (R.take (i + 1)) : Int) := by rw [w64 (by omega) (by omega)]; omega
      refine Ev.step (fun k => ?_) (ih (i + 1) (by omega))
      simp only [impl_LinksByKeys.l0]
      rw [if_pos (Int.ofNat_lt.2 hil), if_pos (Int.natCast_nonneg _), if_pos (Int.ofNat_lt.2 hil), e, e2, succ64 (by omega)]
  exact go R.length 0 (Nat.zero_add _)
theorem upS_le (g : Nat → Nat) (n : Nat) : ∀ i, i ≤ n → upS g i ≤ upS g n := by
  induction n with
  | zero => intro i hi; obtain rfl : i = 0 := by omega
            exact Nat.le_refl _
  | succ n ih =>
    intro i hi
    by_cases h : i = n + 1
    · rw [h]; exact Nat.le_refl _
    · have := ih i (by omega)
      simp only [upS]
      omega
theorem sum_spec (g : Nat → Nat) (N : Nat) (hN : N ≤ 1000000) (hT : upS g N ≤ 1000000) : Ev (fun k => spec_LinksByKeys.l0 k 0 (dgK g N) ((dgK g N).length : Int) 0) (wrap64 (Int.tdiv (upS g N : Int) 2), true) := by
  have go : ∀ d i, i + d = N → Ev (fun k => spec_LinksByKeys.l0 k (upS g i : Int) (dgK g N) ((dgK g N).length : Int) (i : Int)) (wrap64 (Int.tdiv (upS g N : Int) 2), true) := by
    intro d
    induction d with
    | zero =>
      intro i hi
      obtain rfl : i = N := by omega
      refine Ev.step (f := fun _ => some (wrap64 (Int.tdiv (upS g i : Int) 2), true)) (fun k => ?_) (Ev.now _)
      simp only [spec_LinksByKeys.l0]
      rw [dgK_len, if_neg (Int.lt_irrefl _)]
    | succ d ih =>
      intro i hi
      have hil : i < N := by omega
      have hil2 : i < (dgK g N).length := by rw [dgK_len]; exact hil
      have h2 := upS_le g N (i + 1) (by omega)
      have h3 : upS g (i + 1) = upS g i + g i := rfl
      have e : rd (dgK g N) (i : Int) = ((g i : Nat) : Int) := by
        rw [rd_get hil2]
        simp [dgK]
      have e2 : wrap64 ((upS g i : Int) + ((g i : Nat) : Int)) = (upS g (i + 1) : Int) := by rw [w64 (by omega) (by omega)]; omega
      refine Ev.step (fun k => ?_) (ih (i + 1) (by omega))
      simp only [spec_LinksByKeys.l0]
      rw [if_pos (Int.ofNat_lt.2 hil2), if_pos (Int.natCast_nonneg _), if_pos (Int.ofNat_lt.2 hil2), e, e2, succ64 (by omega)]
  exact go N 0 (Nat.zero_add _)
def linksV (ks : List Stt) : Int × Bool := if keysOk ks = true then (wrap64 (Int.tdiv (sumS (gK ks) (tsK ks.length) : Int) 2), true) else (0, false)
theorem links_both (ks : List Stt) (hn : ks.length ≤ 1048576) : Ev (fun k => spec_LinksByKeys.f k (ks.map tx)) (linksV ks) ∧ Ev (fun k => impl_LinksByKeys.f k (ks.map tx)) (linksV ks) := by
  unfold linksV
  cases hk : keysOk ks with
  | false =>
    rw [if_neg Bool.false_ne_true]
    refine ⟨?_, ?_⟩
    · unfold spec_LinksByKeys.f
      refine Ev.bind (keGood ks (by omega)) ?_
      rw [hk]
      exact Ev.congr (fun k => if_neg (by simp)) (Ev.now _)
    · unfold impl_LinksByKeys.f
      refine Ev.bind (areKeys ks (by omega)) ?_
      rw [hk]
      exact Ev.congr (fun k => if_neg (by simp)) (Ev.now _)
  | true =>
    obtain ⟨⟨k1, k2⟩, k3⟩ := keys_parts hk
    have h10 : (2 : Nat) ^ ks.length ≤ 2 ^ 10 := Nat.pow_le_pow_right (by decide) k2
    have h1024 : (2 : Nat) ^ 10 = 1024 := by decide
    have hlen := tsK_length ks.length
    have hT := sumS_le (gK ks) 10 (tsK ks.length) (fun s hs => Nat.le_trans (mvK_len ks s ks.length) k2)
    have hsum := sum_num ks.length (gK ks)
    obtain ⟨R, r1, r2, r3⟩ := links hk
    rw [if_pos rfl]
    refine ⟨?_, ?_⟩
    · unfold spec_LinksByKeys.f
      refine Ev.bind (keGood ks (by omega)) ?_
      rw [hk]
      refine Ev.congr (fun k => if_pos rfl) (Ev.bind (degrees hk) ?_)
      have h := sum_spec (fun i => gK ks (stOf ks.length i)) (2 ^ ks.length) (by omega) (by rw [hsum]; omega)
      rw [hsum] at h
      exact h
    · unfold impl_LinksByKeys.f
      refine Ev.bind (areKeys ks (by omega)) ?_
      rw [hk]
      refine Ev.congr (fun k => if_pos rfl) (Ev.bind r3 ?_)
      have h := sum_impl R (by omega) (by omega)
      rw [r2] at h
      exact h
theorem keBack (key : Stt) (h : key.length ≤ 1000) : Ev (fun k => spec_keBack.f k (tx key)) (tx key.reverse) := by
  have go : ∀ d i, i + d = key.length → Ev (fun k => spec_keBack.l0 k (tx key) (tx (key.take i).reverse) (i : Int)) (tx key.reverse) := by
    intro d
    induction d with
    | zero =>
      intro i hi
      obtain rfl : i = key.length := by omega
      refine Ev.step (f := fun _ => some (tx key.reverse)) (fun k => ?_) (Ev.now _)
      simp only [spec_keBack.l0]
      rw [tx_size, if_neg (Int.lt_irrefl _), List.take_length]
    | succ d ih =>
      intro i hi
      have hil : i < key.length := by omega
      have e1 : (tx key).extract i (i + 1) = tx [key[i]] := by
        rw [cut_tx, List.take_succ_eq_append_getElem hil, List.drop_append, List.drop_of_length_le (by rw [List.length_take]; omega), List.length_take, Nat.min_eq_left (by omega), Nat.sub_self]
        rfl
      have e2 : tx [key[i]] ++ tx (key.take i).reverse = tx (key.take (i + 1)).reverse := by
        rw [app_tx, List.take_succ_eq_append_getElem hil, List.reverse_append]
        rfl
      have hsz : (tx [key[i]]).size + (tx (key.take i).reverse).size ≤ 9223372036854775807 := by
        rw [tx_size, tx_size, List.length_singleton, List.length_reverse, List.length_take]
        omega
      refine Ev.step (fun k => ?_) (ih (i + 1) (by omega))
      simp only [spec_keBack.l0]
      rw [tx_size, if_pos (Int.ofNat_lt.2 hil), if_pos (Int.natCast_nonneg _), succ64 (by omega), if_pos (Int.ofNat_le.2 (Nat.le_succ i)), if_pos (Int.ofNat_le.2 hil), Int.toNat_natCast, Int.toNat_natCast, e1, if_pos hsz, e2]
  have := go key.length 0 (Nat.zero_add _)
  unfold spec_keBack.f
  exact this
theorem reversed (key : Stt) (h : key.length ≤ 1000) : impl_reversed.f (tx key) = some (tx key.reverse) := by
  unfold impl_reversed.f
  rw [tx_size, if_pos (by omega), tx_data]
  rfl
/-- The keys from number j on, turned, the last one first. -/
def tnK (ks : List Stt) (j : Nat) : List ByteArray := (ks.drop j).reverse.map (fun key => tx key.reverse)
theorem tnK_len (ks : List Stt) (j : Nat) : (tnK ks j).length ≤ ks.length := by
  unfold tnK
  rw [List.length_map, List.length_reverse, List.length_drop]
  omega
theorem tnK_step (ks : List Stt) (j : Nat) (h : j < ks.length) : tnK ks (j + 1) ++ [tx ks[j].reverse] = tnK ks j := by
  unfold tnK
  rw [List.drop_eq_getElem_cons h, List.reverse_cons, List.map_append]
  rfl
theorem pred_w (j : Nat) (h : j ≤ 2097152) : wrap64 ((j : Int) - 1) = (j : Int) - 1 := w64 (by omega) (by omega)
def turnV (ks : List Stt) : List ByteArray × Bool := if keysOk ks = true then (tnK ks 0, true) else ([], false)
theorem turn_both (ks : List Stt) (hn : ks.length ≤ 1048576) : Ev (fun k => spec_TurnKeys.f k (ks.map tx)) (turnV ks) ∧ Ev (fun k => impl_TurnKeys.f k (ks.map tx)) (turnV ks) := by
  unfold turnV
  cases hk : keysOk ks with
  | false =>
    rw [if_neg Bool.false_ne_true]
    refine ⟨?_, ?_⟩
    · unfold spec_TurnKeys.f
      refine Ev.bind (keGood ks (by omega)) ?_
      rw [hk]
      exact Ev.congr (fun k => if_neg (by simp)) (Ev.now _)
    · unfold impl_TurnKeys.f
      refine Ev.bind (areKeys ks (by omega)) ?_
      rw [hk]
      exact Ev.congr (fun k => if_neg (by simp)) (Ev.now _)
  | true =>
    obtain ⟨⟨k1, k2⟩, k3⟩ := keys_parts hk
    rw [if_pos rfl]
    refine ⟨?_, ?_⟩
    · have go : ∀ j, j ≤ ks.length → Ev (fun k => spec_TurnKeys.l0 k (ks.map tx) (tnK ks j) ((j : Int) - 1)) (tnK ks 0, true) := by
        intro j
        induction j with
        | zero =>
          intro _
          refine Ev.step (f := fun _ => some (tnK ks 0, true)) (fun k => ?_) (Ev.now _)
          simp only [spec_TurnKeys.l0]
          rw [if_neg (by omega)]
        | succ j ih =>
          intro hj
          have hl : (ks[j]).length ≤ 1000 := by rw [(k3 j hj).1]; omega
          have h9 := tnK_len ks (j + 1)
          have e : ((j + 1 : Nat) : Int) - 1 = (j : Int) := by omega
          refine Ev.step (f := fun k => (spec_keBack.f k (tx ks[j])).bind fun t => spec_TurnKeys.l0 k (ks.map tx) (tnK ks (j + 1) ++ [t]) ((j : Int) - 1)) (fun k => ?_) (Ev.bind (keBack _ hl) ?_)
          · simp only [spec_TurnKeys.l0]
            rw [e, if_pos (show (j : Int) ≥ 0 from Int.natCast_nonneg j), if_pos (Int.natCast_nonneg j), List.length_map, if_pos (Int.ofNat_lt.2 hj), rdK hj, pred_w j (by omega)]
            simp only [if_pos (show (tnK ks (j + 1)).length < 8796093022208 by omega)]
          · rw [tnK_step ks j hj]
            exact ih (by omega)
      unfold spec_TurnKeys.f
      refine Ev.bind (keGood ks (by omega)) ?_
      rw [hk]
      refine Ev.congr (fun k => if_pos rfl) ?_
      rw [List.length_map, pred_w ks.length (by omega)]
      have h0 := go ks.length (Nat.le_refl _)
      have e0 : tnK ks ks.length = [] := by unfold tnK; rw [List.drop_length]; rfl
      rw [e0] at h0
      exact h0
    · have go : ∀ j, j ≤ ks.length → Ev (fun k => impl_TurnKeys.l0 k (ks.map tx) (tnK ks j) ((j : Int) - 1)) (tnK ks 0, true) := by
        intro j
        induction j with
        | zero =>
          intro _
          refine Ev.step (f := fun _ => some (tnK ks 0, true)) (fun k => ?_) (Ev.now _)
          simp only [impl_TurnKeys.l0]
          rw [if_neg (by omega)]
        | succ j ih =>
          intro hj
          have hl : (ks[j]).length ≤ 1000 := by rw [(k3 j hj).1]; omega
          have h9 := tnK_len ks (j + 1)
          have e : ((j + 1 : Nat) : Int) - 1 = (j : Int) := by omega
          refine Ev.step (fun k => ?_) (ih (by omega))
          simp only [impl_TurnKeys.l0]
          rw [e, if_pos (show (j : Int) ≥ 0 from Int.natCast_nonneg j), if_pos (Int.natCast_nonneg j), List.length_map, if_pos (Int.ofNat_lt.2 hj), rdK hj, pred_w j (by omega), reversed _ hl, obind, if_pos (show (tnK ks (j + 1)).length < 8796093022208 by omega), tnK_step ks j hj]
      unfold impl_TurnKeys.f
      refine Ev.bind (areKeys ks (by omega)) ?_
      rw [hk]
      refine Ev.congr (fun k => if_pos rfl) ?_
      rw [List.length_map, pred_w ks.length (by omega)]
      have h0 := go ks.length (Nat.le_refl _)
      have e0 : tnK ks ks.length = [] := by unfold tnK; rw [List.drop_length]; rfl
      rw [e0] at h0
      exact h0
/-- A text cut at one sign. -/
def ptA (c : UInt8) : Stt → Stt → List Stt
  | cur, [] => [cur]
  | cur, b :: l => if b = c then cur :: ptA c [] l else ptA c (cur ++ [b]) l
def glue (cur : Stt) : List Stt → List Stt
  | [] => []
  | x :: r => (cur ++ x) :: r
theorem glue_nil (l : List Stt) : glue [] l = l := by cases l <;> rfl
theorem glue_glue (a b : Stt) (l : List Stt) : glue a (glue b l) = glue (a ++ b) l := by cases l <;> simp [glue]
theorem split_eq (c : UInt8) : ∀ (l : Stt), Go.Lib.split l [c] = glue [] (Go.Lib.split l [c])
  | l => (glue_nil _).symm
theorem split_nil (c : UInt8) : Go.Lib.split [] [c] = [[]] := by
  unfold Go.Lib.split
  rw [Go.Lib.count_one]
  rfl
theorem split_eq_cons (c : UInt8) (l : Stt) : Go.Lib.split (c :: l) [c] = [] :: Go.Lib.split l [c] := by
  unfold Go.Lib.split
  have hix : Go.Lib.index (c :: l) [c] = 0 := by rw [Go.Lib.index]; simp [List.isPrefixOf]
  rw [Go.Lib.count_cons_eq, Nat.add_comm 1 (Go.Lib.count l [c]), Go.Lib.splitK, hix, if_neg (by decide)]
  rfl
theorem split_ne_cons (b c : UInt8) (l : Stt) (h : b ≠ c) : Go.Lib.split (b :: l) [c] = glue [b] (Go.Lib.split l [c]) := by
  have hp : ([c] : List UInt8).isPrefixOf (b :: l) = false := by simp [List.isPrefixOf, Ne.symm h]
  have hix : Go.Lib.index (b :: l) [c] = if Go.Lib.index l [c] == -1 then -1 else Go.Lib.index l [c] + 1 := by rw [Go.Lib.index, hp]; simp
  unfold Go.Lib.split
  rw [Go.Lib.count_cons_ne b c l h]
  cases hn : Go.Lib.count l [c] with
  | zero => rfl
  | succ n =>
    unfold Go.Lib.splitK
    by_cases hm : Go.Lib.index l [c] = -1
    · rw [hix, hm, if_pos (by decide), if_pos (by decide)]
      rfl
    · have hge := Go.Lib.index_ge l [c]
      obtain ⟨j, hj⟩ : ∃ j : Nat, Go.Lib.index l [c] = j := ⟨(Go.Lib.index l [c]).toNat, by omega⟩
      have hb1 : ¬ ((Go.Lib.index l [c] == -1) = true) := fun e => hm (beq_iff_eq.1 e)
      have hix' : Go.Lib.index (b :: l) [c] = ((j + 1 : Nat) : Int) := by rw [hix, if_neg hb1, hj]; omega
      have hb2 : ¬ ((Go.Lib.index (b :: l) [c] == -1) = true) := fun e => by have := beq_iff_eq.1 e; omega
      rw [if_neg hb2, if_neg hb1, hix', hj]
      rfl
theorem split_ptA (c : UInt8) : ∀ (l cur : Stt), glue cur (Go.Lib.split l [c]) = ptA c cur l
  | [], cur => by
    rw [split_nil]
    simp [glue, ptA]
  | b :: l, cur => by
    by_cases h : b = c
    · subst h
      rw [split_eq_cons, ptA, if_pos rfl, ← split_ptA b l [], glue_nil]
      simp [glue]
    · rw [split_ne_cons b c l h, glue_glue, split_ptA c l (cur ++ [b]), ptA, if_neg h]
/-- The parts' lengths, and one more sign for each but the first. -/
theorem ptA_sum (c : UInt8) : ∀ (l cur : Stt), ((ptA c cur l).map List.length).sum + (ptA c cur l).length = cur.length + l.length + 1
  | [], cur => by simp [ptA]
  | b :: l, cur => by
    rw [ptA]
    split
    · have := ptA_sum c l []
      simp only [List.map_cons, List.sum_cons, List.length_cons, List.length_nil] at this ⊢
      omega
    · have := ptA_sum c l (cur ++ [b])
      rw [this]
      simp only [List.length_append, List.length_cons, List.length_nil]
      omega
theorem ptA_len (c : UInt8) (l cur : Stt) : (ptA c cur l).length ≤ cur.length + l.length + 1 := by
  have := ptA_sum c l cur
  omega
theorem sum_le (m : Nat) : ∀ (L : List Stt), (∀ x ∈ L, x.length ≤ m) → (L.map List.length).sum ≤ m * L.length
  | [], _ => by simp
  | x :: L, h => by
    have h1 := sum_le m L (fun y hy => h y (List.mem_cons_of_mem _ hy))
    have h2 := h x List.mem_cons_self
    simp only [List.map_cons, List.sum_cons, List.length_cons]
    rw [Nat.mul_succ]
    omega
theorem big_bad (l : Stt) (h : 110 < l.length) : keysOk (ptA 47 [] l) = false := by
  cases hk : keysOk (ptA 47 [] l) with
  | false => rfl
  | true =>
    exfalso
    obtain ⟨⟨k1, k2⟩, k3⟩ := keys_parts hk
    have hs := ptA_sum 47 l []
    have h10 : ∀ x ∈ ptA 47 [] l, x.length ≤ 10 := by
      intro x hx
      obtain ⟨i, hi, rfl⟩ := List.getElem_of_mem hx
      rw [(k3 i hi).1]
      exact k2
    have := sum_le 10 _ h10
    rw [List.length_nil] at hs
    omega
theorem isSlash (c : UInt8) : ((c.toNat : Int) = 47) ↔ c = 47 := toNat_eq (n := 47) (by decide)
theorem l1Split (l : Stt) (hl : l.length ≤ 1048576) : Ev (fun k => spec_l1Split.f k (tx l) 47) ((ptA 47 [] l).map tx) := by
  have go : ∀ d i from_ (acc : List ByteArray), i + d = l.length → from_ ≤ i → acc.length ≤ i → Ev (fun k => spec_l1Split.l0 k (tx l) 47 acc (from_ : Int) (i : Int)) (acc ++ (ptA 47 ((l.take i).drop from_) (l.drop i)).map tx) := by
    intro d
    induction d with
    | zero =>
      intro i fr acc hi hf ha
      obtain rfl : i = l.length := by omega
      refine Ev.step (f := fun _ => some (acc ++ (ptA 47 ((l.take l.length).drop fr) (l.drop l.length)).map tx)) (fun k => ?_) (Ev.now _)
      simp only [spec_l1Split.l0]
      rw [tx_size, if_neg (Int.lt_irrefl _), if_pos (Int.natCast_nonneg _), if_pos (Int.ofNat_le.2 hf), if_pos (show acc.length < 8796093022208 by omega), Int.toNat_natCast, cut_tx, List.drop_length]
      rfl
    | succ d ih =>
      intro i fr acc hi hf ha
      have hil : i < l.length := by omega
      have hd : l.drop i = l[i] :: l.drop (i + 1) := List.drop_eq_getElem_cons hil
      by_cases h47 : l[i] = 47
      · have h := ih (i + 1) (i + 1) (acc ++ [tx ((l.take i).drop fr)]) (by omega) (Nat.le_refl _) (by rw [List.length_append, List.length_singleton]; omega)
        have e0 : (l.take (i + 1)).drop (i + 1) = [] := List.drop_of_length_le (by rw [List.length_take]; omega)
        have e1 : acc ++ (ptA 47 ((l.take i).drop fr) (l.drop i)).map tx = (acc ++ [tx ((l.take i).drop fr)]) ++ (ptA 47 ((l.take (i + 1)).drop (i + 1)) (l.drop (i + 1))).map tx := by
          rw [hd, ptA, if_pos h47, e0, List.map_cons, List.append_assoc]
          rfl
        rw [e1]
        refine Ev.step (fun k => ?_) h
        simp only [spec_l1Split.l0]
        rw [tx_size, if_pos (Int.ofNat_lt.2 hil), if_pos (Int.natCast_nonneg _), bt_tx hil, if_pos ((isSlash _).2 h47), if_pos (Int.natCast_nonneg _), if_pos (Int.ofNat_le.2 hf), if_pos (Int.ofNat_le.2 (Nat.le_of_lt hil)), if_pos (show acc.length < 8796093022208 by omega), Int.toNat_natCast, Int.toNat_natCast, cut_tx, succ64 (by omega)]
      · have h := ih (i + 1) fr acc (by omega) (by omega) (by omega)
        have e1 : acc ++ (ptA 47 ((l.take i).drop fr) (l.drop i)).map tx = acc ++ (ptA 47 ((l.take (i + 1)).drop fr) (l.drop (i + 1))).map tx := by
          have e0 : (l.take (i + 1)).drop fr = (l.take i).drop fr ++ [l[i]] := by
            rw [List.take_succ_eq_append_getElem hil, List.drop_append_of_le_length (by rw [List.length_take]; omega)]
          rw [hd, ptA, if_neg h47, e0]
        rw [e1]
        refine Ev.step (fun k => ?_) h
        simp only [spec_l1Split.l0]
        rw [tx_size, if_pos (Int.ofNat_lt.2 hil), if_pos (Int.natCast_nonneg _), bt_tx hil, if_neg (fun e => h47 ((isSlash _).1 e)), succ64 (by omega)]
  have h := go l.length 0 0 [] (Nat.zero_add _) (Nat.le_refl _) (Nat.le_refl _)
  unfold spec_l1Split.f
  exact h
theorem libSplit (l : Stt) (hl : l.length ≤ 1048576) : strings_Split.f (tx l) (⟨#[47]⟩ : ByteArray) = some ((ptA 47 [] l).map tx) := by
  have e : Go.Lib.splitB ⟨#[47]⟩ 0 (Go.Lib.countB (tx l) ⟨#[47]⟩) (tx l) = (ptA 47 [] l).map tx := by
    have h := Go.Lib.splitB_data ⟨#[47]⟩ 0 (Go.Lib.countB (tx l) ⟨#[47]⟩) (tx l)
    have h2 : Go.Lib.splitK (⟨#[47]⟩ : ByteArray).data.toList 0 (Go.Lib.countB (tx l) ⟨#[47]⟩) (tx l).data.toList = Go.Lib.split (tx l).data.toList [47] := rfl
    rw [h2, tx_data, ← glue_nil (Go.Lib.split l [47]), split_ptA] at h
    rw [← h, List.map_map]
    have : (tx ∘ fun b : ByteArray => b.data.toList) = id := by funext b; exact tx_self b
    rw [this, List.map_id]
  have e1 : strings_Split.f (tx l) (⟨#[47]⟩ : ByteArray) = if (tx l).size < 4294967281 then some (Go.Lib.splitB ⟨#[47]⟩ 0 (Go.Lib.countB (tx l) ⟨#[47]⟩) (tx l)) else none := rfl
  rw [e1, tx_size, if_pos (by omega), e]
def parseV (l : Stt) : List ByteArray × Bool := if keysOk (ptA 47 [] l) = true then ((ptA 47 [] l).map tx, true) else ([], false)
theorem parse_both (l : Stt) (hl : l.length ≤ 1048576) : Ev (fun k => spec_ParseKeys.f k (tx l)) (parseV l) ∧ Ev (fun k => impl_ParseKeys.f k (tx l)) (parseV l) := by
  unfold parseV
  have hpl := ptA_len 47 l []
  rw [List.length_nil] at hpl
  refine ⟨?_, ?_⟩
  · unfold spec_ParseKeys.f
    have h : Ev (fun k => spec_keParse.f k (tx l)) (if keysOk (ptA 47 [] l) = true then ((ptA 47 [] l).map tx, true) else ([], false)) := by
      unfold spec_keParse.f
      rw [tx_size]
      by_cases h110 : 110 < l.length
      · rw [big_bad l h110, if_neg (by simp)]
        exact Ev.congr (fun k => if_pos (by omega)) (Ev.now _)
      · refine Ev.congr (fun k => if_neg (by omega)) (Ev.bind (l1Split l hl) (Ev.bind (keGood _ (by omega)) ?_))
        cases hk : keysOk (ptA 47 [] l) with
        | false => exact Ev.congr (fun k => if_neg (by simp)) (Ev.now _)
        | true => exact Ev.congr (fun k => if_pos rfl) (Ev.now _)
    exact Ev.bind (f := fun _ t => some (t.1, t.2)) h (Ev.now _)
  · unfold impl_ParseKeys.f
    rw [libSplit l hl]
    refine Ev.congr (fun k => obind _ _) (Ev.bind (areKeys _ (by omega)) ?_)
    cases hk : keysOk (ptA 47 [] l) with
    | false => exact Ev.congr (fun k => if_neg (by simp)) (Ev.now _)
    | true => exact Ev.congr (fun k => if_pos rfl) (Ev.now _)
def txK (ks : List Stt) : Nat → Stt
  | 0 => []
  | i + 1 => (txK ks i ++ (if i = 0 then [] else [47])) ++ ks.getD i []
theorem txK_cons (x : Stt) (r : List Stt) : ∀ i, i ≤ r.length → txK (x :: r) (i + 1) = x ++ Go.Lib.joinTail [47] (r.take i)
  | 0, _ => by simp [txK, Go.Lib.joinTail]
  | i + 1, h => by
    have ih := txK_cons x r i (by omega)
    have hi : i < r.length := by omega
    show (txK (x :: r) (i + 1) ++ (if i + 1 = 0 then [] else [47])) ++ (x :: r).getD (i + 1) [] = _
    rw [ih, List.take_succ_eq_append_getElem hi]
    have e : (x :: r).getD (i + 1) [] = r[i] := by simp [List.getD, hi]
    have j : ∀ (a : List Stt) (y : Stt), Go.Lib.joinTail [47] (a ++ [y]) = Go.Lib.joinTail [47] a ++ 47 :: y := by
      intro a y
      simp [Go.Lib.joinTail]
    rw [e, j, if_neg (Nat.succ_ne_zero i)]
    rw [List.append_assoc, List.append_assoc]
    rfl
theorem txK_join (ks : List Stt) (h : 1 ≤ ks.length) : txK ks ks.length = Go.Lib.join ks [47] := by
  cases ks with
  | nil => simp at h
  | cons x r =>
    rw [Go.Lib.join_cons]
    have := txK_cons x r r.length (Nat.le_refl _)
    rw [List.take_length] at this
    exact this
theorem txK_len {ks : List Stt} (hk : keysOk ks = true) : ∀ i, i ≤ ks.length → (txK ks i).length ≤ 11 * i
  | 0, _ => Nat.le_refl _
  | i + 1, h => by
    obtain ⟨⟨k1, k2⟩, k3⟩ := keys_parts hk
    have ih := txK_len hk i (by omega)
    have hi : i < ks.length := by omega
    have h3 := (k3 i hi).1
    show ((txK ks i ++ (if i = 0 then [] else [47])) ++ ks.getD i []).length ≤ _
    rw [List.length_append, List.length_append, getD_get hi, h3]
    split <;> simp <;> omega
theorem keText {ks : List Stt} (hk : keysOk ks = true) : Ev (fun k => spec_keText.f k (ks.map tx)) (tx (txK ks ks.length)) := by
  obtain ⟨⟨k1, k2⟩, k3⟩ := keys_parts hk
  have key : ∀ d i, i + d = ks.length → Ev (fun k => spec_keText.l0 k (tx (txK ks i)) (ks.map tx) (ks.length : Int) (i : Int)) (tx (txK ks ks.length)) := by
    intro d
    induction d with
    | zero =>
      intro i hi
      obtain rfl : i = ks.length := by omega
      refine Ev.step (f := fun _ => some (tx (txK ks ks.length))) (fun k => ?_) (Ev.now _)
      simp only [spec_keText.l0]
      rw [if_neg (Int.lt_irrefl _)]
    | succ d ih =>
      intro i hi
      have hil : i < ks.length := by omega
      have hlen := txK_len hk i (by omega)
      have h3 := (k3 i hil).1
      have hs : txK ks (i + 1) = (txK ks i ++ (if i = 0 then [] else [47])) ++ ks[i] := by
        show (txK ks i ++ (if i = 0 then [] else [47])) ++ ks.getD i [] = _
        rw [getD_get hil]
      refine Ev.step (fun k => ?_) (ih (i + 1) (by omega))
      simp only [spec_keText.l0]
      rw [if_pos (Int.ofNat_lt.2 hil), if_pos (Int.natCast_nonneg _), if_pos (show (i : Int) < ((ks.map tx).length : Int) by rw [List.length_map]; exact Int.ofNat_lt.2 hil), rdK hil, succ64 (by omega), hs]
      by_cases h0 : i = 0
      · rw [if_neg (by omega), tx_size, tx_size, if_pos (by omega), if_pos h0, List.append_nil, app_tx]
      · rw [if_pos (by omega), tx_size, if_pos (by omega), if_neg h0]
        have e : tx (txK ks i) ++ (⟨#[47]⟩ : ByteArray) = tx (txK ks i ++ [47]) := app_tx _ [47]
        rw [e, tx_size, tx_size, if_pos (by rw [List.length_append, List.length_singleton]; omega), app_tx]
  have h := key ks.length 0 (Nat.zero_add _)
  unfold spec_keText.f
  rw [List.length_map]
  exact h
def textV (ks : List Stt) : ByteArray × Bool := if keysOk ks = true then (tx (txK ks ks.length), true) else (⟨#[]⟩, false)
theorem text_both (ks : List Stt) (hn : ks.length ≤ 1048576) : Ev (fun k => spec_KeysText.f k (ks.map tx)) (textV ks) ∧ Ev (fun k => impl_KeysText.f k (ks.map tx)) (textV ks) := by
  unfold textV
  refine ⟨?_, ?_⟩
  · unfold spec_KeysText.f
    refine Ev.bind (keGood ks (by omega)) ?_
    cases hk : keysOk ks with
    | false => exact Ev.congr (fun k => if_neg (by simp)) (Ev.now _)
    | true => exact Ev.congr (fun k => if_pos rfl) (Ev.bind (f := fun _ t => some (t, true)) (keText hk) (Ev.now _))
  · unfold impl_KeysText.f
    refine Ev.bind (areKeys ks (by omega)) ?_
    cases hk : keysOk ks with
    | false => exact Ev.congr (fun k => if_neg (by simp)) (Ev.now _)
    | true =>
      obtain ⟨⟨k1, k2⟩, k3⟩ := keys_parts hk
      have hj : strings_Join.f (ks.map tx) (⟨#[47]⟩ : ByteArray) = some (tx (txK ks ks.length)) := by
        have e1 : (ks.map tx).map (·.data.toList) = ks := by
          rw [List.map_map]
          have : ((fun b : ByteArray => b.data.toList) ∘ tx) = id := by funext s; exact tx_data s
          rw [this, List.map_id]
        have e2 : Go.Lib.join ((ks.map tx).map (·.data.toList)) (⟨#[47]⟩ : ByteArray).data.toList = txK ks ks.length := by
          rw [e1, txK_join ks k1]
        have h9 := txK_len hk ks.length (Nat.le_refl _)
        unfold strings_Join.f
        rw [e2, List.length_map, if_pos ⟨k1, by omega, by omega⟩]
        rfl
      exact Ev.congr (fun k => by rw [if_pos rfl, hj, obind, if_pos rfl]) (Ev.now _)
end Go.Proofs.YtbmbehkdidlolaaGreatDoor.Lem
namespace Go.Proofs.YtbmbehkdidlolaaGreatDoor.Graph
variable {α : Type}

/-- How many pairs of a list stand to each other. -/
def pairs (r : α → α → Bool) (V : List α) : Nat := (V.map fun v => V.countP (r v)).sum
theorem sum_zero (V : List α) : (V.map fun _ => 0).sum = 0 := by
  induction V with
  | nil => rfl
  | cons a V ih => rw [List.map_cons, List.sum_cons, ih]
theorem sum_plus (V : List α) (f g : α → Nat) : (V.map fun v => f v + g v).sum = (V.map f).sum + (V.map g).sum := by
  induction V with
  | nil => rfl
  | cons a V ih => simp only [List.map_cons, List.sum_cons, ih]; omega
theorem sum_le (V : List α) (f g : α → Nat) (h : ∀ v ∈ V, f v ≤ g v) : (V.map f).sum ≤ (V.map g).sum := by
  induction V with
  | nil => exact Nat.le_refl _
  | cons a V ih =>
    have h1 := h a List.mem_cons_self
    have h2 := ih (fun v hv => h v (List.mem_cons_of_mem _ hv))
    simp only [List.map_cons, List.sum_cons]
    omega
theorem sum_same (V : List α) (f g : α → Nat) (h : ∀ v ∈ V, f v = g v) : (V.map f).sum = (V.map g).sum := by
  rw [List.map_congr_left h]
theorem countP_sum (p : α → Bool) (V : List α) : V.countP p = (V.map fun v => if p v = true then 1 else 0).sum := by
  induction V with
  | nil => rfl
  | cons a V ih =>
    rw [List.countP_cons, ih, List.map_cons, List.sum_cons]
    omega
theorem swap (r : α → α → Bool) : ∀ (U V : List α), (U.map fun u => V.countP (r u)).sum = (V.map fun v => U.countP (fun u => r u v)).sum
  | [], V => by
    simp only [List.map_nil, List.sum_nil, List.countP_nil]
    exact (sum_zero V).symm
  | a :: U, V => by
    rw [List.map_cons, List.sum_cons, swap r U V, countP_sum (r a) V, ← sum_plus]
    refine sum_same _ _ _ (fun v _ => ?_)
    rw [List.countP_cons]
    omega
theorem countP_two (p q s : α → Bool) (h : ∀ x, p x = true → s x = true ∧ q x = false) (h2 : ∀ x, q x = true → s x = true) (V : List α) : V.countP p + V.countP q ≤ V.countP s := by
  induction V with
  | nil => exact Nat.le_refl _
  | cons a V ih =>
    rw [List.countP_cons, List.countP_cons, List.countP_cons]
    cases hp : p a with
    | true =>
      obtain ⟨h1, h3⟩ := h a hp
      rw [h1, h3]
      simp only [if_true, Bool.false_eq_true, if_false]
      omega
    | false =>
      cases hq : q a with
      | true =>
        rw [h2 a hq]
        simp only [if_true, Bool.false_eq_true, if_false]
        omega
      | false =>
        simp only [Bool.false_eq_true, if_false]
        omega
theorem countP_pos_one {p : α → Bool} {V : List α} {x : α} (hx : x ∈ V) (hp : p x = true) : 1 ≤ V.countP p := List.countP_pos_iff.2 ⟨x, hx, hp⟩
theorem countP_congr_mem {p q : α → Bool} {V : List α} (h : ∀ x ∈ V, p x = q x) : V.countP p = V.countP q := by
  induction V with
  | nil => rfl
  | cons a V ih => rw [List.countP_cons, List.countP_cons, ih (fun x hx => h x (List.mem_cons_of_mem _ hx)), h a List.mem_cons_self]
/-- Where each state but the first ones has one that is nearer by one move, twice as many pairs as states that are no first ones. -/
theorem pairs_ge (V : List α) (adj : α → α → Bool) (hsym : ∀ u ∈ V, ∀ v ∈ V, adj u v = adj v u) (f : α → Nat) (hf : ∀ v ∈ V, f v ≠ 0 → ∃ t ∈ V, adj v t = true ∧ f t + 1 = f v) :
    2 * V.countP (fun v => f v != 0) ≤ pairs adj V := by
  have e1 : pairs (fun v t => adj v t && (f t + 1 == f v)) V + pairs (fun v t => adj v t && (f v + 1 == f t)) V ≤ pairs adj V := by
    unfold pairs
    rw [← sum_plus]
    refine sum_le _ _ _ (fun v _ => countP_two _ _ _ (fun x hx => ?_) (fun x hx => ?_) V)
    · rw [Bool.and_eq_true, beq_iff_eq] at hx
      refine ⟨hx.1, ?_⟩
      show (adj v x && (f v + 1 == f x)) = false
      rw [hx.1, Bool.true_and, beq_eq_false_iff_ne]
      omega
    · rw [Bool.and_eq_true] at hx
      exact hx.1
  have e2 : pairs (fun v t => adj v t && (f t + 1 == f v)) V = pairs (fun v t => adj v t && (f v + 1 == f t)) V := by
    unfold pairs
    rw [swap]
    refine sum_same _ _ _ (fun v hv => countP_congr_mem (fun u hu => ?_))
    rw [hsym u hu v hv]
  have e3 : V.countP (fun v => f v != 0) ≤ pairs (fun v t => adj v t && (f t + 1 == f v)) V := by
    unfold pairs
    rw [countP_sum]
    refine sum_le _ _ _ (fun v hv => ?_)
    by_cases h : f v = 0
    · rw [if_neg (by simpa using h)]
      exact Nat.zero_le _
    · obtain ⟨t, ht, h1, h2⟩ := hf v hv h
      rw [if_pos (by simpa using h)]
      exact countP_pos_one ht (by show (adj v t && (f t + 1 == f v)) = true; rw [h1, h2]; simp)
  omega
/-- Degrees of one and two. -/
theorem sum_ends : ∀ l : List Nat, (∀ x ∈ l, 1 ≤ x ∧ x ≤ 2) → l.sum + l.countP (fun x => x == 1) = 2 * l.length
  | [], _ => rfl
  | x :: l, h => by
    have h1 := sum_ends l (fun y hy => h y (List.mem_cons_of_mem _ hy))
    have h2 := h x List.mem_cons_self
    rw [List.sum_cons, List.countP_cons, List.length_cons]
    by_cases e : x = 1
    · subst e
      simp only [beq_self_eq_true, if_true]
      omega
    · have e2 : (x == 1) = false := by simpa using e
      rw [e2]
      simp only [Bool.false_eq_true, if_false]
      omega
theorem nodup_bound : ∀ (N : Nat) (l : List Nat), l.Nodup → (∀ x ∈ l, x < N) → l.length ≤ N
  | 0, l, _, h => by
    cases l with
    | nil => simp
    | cons a l => exact absurd (h a (by simp)) (Nat.not_lt_zero a)
  | N + 1, l, hn, h => by
    by_cases hm : N ∈ l
    · have h1 := nodup_bound N (l.erase N) (hn.erase N) (fun x hx => by
        have h2 := (List.Nodup.mem_erase_iff hn).1 hx
        have h3 := h x h2.2
        have := h2.1
        omega)
      rw [List.length_erase_of_mem hm] at h1
      omega
    · have := nodup_bound N l hn (fun x hx => by
        have h3 := h x hx
        have : x ≠ N := fun e => hm (e ▸ hx)
        omega)
      omega
/-- Told apart by their distance, so many states need so great a one. -/
theorem far_all (V : List α) (hn : V.Nodup) (f : α → Nat) (m : Nat) (hf : ∀ x ∈ V, f x ≤ m) (hi : ∀ x ∈ V, ∀ y ∈ V, f x = f y → x = y) : V.length ≤ m + 1 := by
  have h := nodup_bound (m + 1) (V.map f) ?_ ?_
  · rwa [List.length_map] at h
  · unfold List.Nodup
    rw [List.pairwise_map]
    exact List.Pairwise.imp_of_mem (fun ha hb hne e => hne (hi _ ha _ hb e)) hn
  · intro x hx
    obtain ⟨y, hy, rfl⟩ := List.mem_map.1 hx
    exact Nat.lt_succ_of_le (hf y hy)
/-- In a list of at most two different elements that holds p, two others are the same. -/
theorem two_only {l : List α} (hl : l.length ≤ 2) {p x y : α} (hp : p ∈ l) (hx : x ∈ l) (hy : y ∈ l) (h1 : x ≠ p) (h2 : y ≠ p) : x = y := by
  match l, hl with
  | [], _ => cases hp
  | [a], _ =>
    rw [List.mem_singleton] at hx hy
    rw [hx, hy]
  | [a, b], _ =>
    simp only [List.mem_cons, List.not_mem_nil, or_false] at hp hx hy
    rcases hp with rfl | rfl <;> rcases hx with rfl | rfl <;> rcases hy with rfl | rfl <;> first | rfl | exact absurd rfl h1 | exact absurd rfl h2
theorem one_only {l : List α} (hl : l.length ≤ 1) {x y : α} (hx : x ∈ l) (hy : y ∈ l) : x = y := by
  match l, hl with
  | [], _ => cases hx
  | [a], _ =>
    rw [List.mem_singleton] at hx hy
    rw [hx, hy]
end Go.Proofs.YtbmbehkdidlolaaGreatDoor.Graph
namespace Go.Proofs.YtbmbehkdidlolaaGreatDoor.Bfs
theorem Path.mapped {α β : Type} {step : α → List α} {step' : β → List β} {g : α → β} {P : α → Prop} (hP : ∀ a b, P a → b ∈ step a → P b) (hs : ∀ a b, P a → b ∈ step a → g b ∈ step' (g a)) {a c : α} {n : Nat} (ha : P a) (p : Path step a n c) : P c ∧ Path step' (g a) n (g c) := by
  induction p with
  | nil => exact ⟨ha, .nil⟩
  | @snoc n b c _ hc ih => exact ⟨hP b c ih.1 hc, .snoc ih.2 (hs b c ih.1 hc)⟩
end Go.Proofs.YtbmbehkdidlolaaGreatDoor.Bfs
namespace Go.Proofs.YtbmbehkdidlolaaGreatDoor.Lem
open Go.RowKit Go.Proofs.YtbmbehkdidlolaaGreatDoor.PT Go.Proofs.YtbmbehkdidlolaaGreatDoorW.PrintWords Go.Proofs.YtbmbehkdidlolaaGreatDoorW.PrintLast Go.Proofs.YtbmbehkdidlolaaGreatDoorW.PrintMore Go.Proofs.YtbmbehkdidlolaaGreatDoor.Ring Go.Proofs.YtbmbehkdidlolaaGreatDoor.Bfs
set_option linter.unusedVariables false
set_option linter.unusedSimpArgs false

theorem flipC_neG (c : UInt8) (h : okc c = true) : flipC c ≠ c := by rcases okc_cases h with rfl | rfl <;> decide
theorem flipAt_injG {n : Nat} {s : Stt} (hs : okN n s) {i j : Nat} (hi : i < n) (e : flipAt s i = flipAt s j) : i = j := by
  by_cases c : i = j
  · exact c
  · exfalso
    have hi' : i < s.length := by rw [hs.1]; exact hi
    have h1 := flipAt_get s i i
    have h2 := flipAt_get s j i
    rw [if_pos rfl] at h1
    rw [if_neg (fun g => c g.symm)] at h2
    rw [e, h2, List.getElem?_eq_getElem hi', Option.map_some] at h1
    exact flipC_neG _ (all_get.1 hs.2 i _ (List.getElem?_eq_getElem hi')) (Option.some.inj h1).symm
theorem flip_neG {n : Nat} {s : Stt} (hs : okN n s) {k : Nat} (hk : k < n) : flipAt s k ≠ s := by
  intro e
  have hl : k < s.length := by rw [hs.1]; exact hk
  have h1 := flipAt_get s k k
  rw [if_pos rfl, e, List.getElem?_eq_getElem hl, Option.map_some] at h1
  exact flipC_neG _ (all_get.1 hs.2 k _ (List.getElem?_eq_getElem hl)) (Option.some.inj h1).symm
theorem stepG_nodup {ks : List Stt} {s : Stt} (hs : okN ks.length s) : (stepK ks s).Nodup := by
  unfold stepK List.Nodup
  rw [List.pairwise_map]
  refine List.Pairwise.imp_of_mem (fun {i j} hi hj hne e => hne ?_) (List.Pairwise.filter _ List.nodup_range : (mvK ks s ks.length).Nodup)
  exact flipAt_injG hs (mvK_lt hi).1 e
def adjK (ks : List Stt) (s t : Stt) : Bool := (stepK ks s).contains t
theorem adjK_iff {ks : List Stt} {s t : Stt} : adjK ks s t = true ↔ t ∈ stepK ks s := by unfold adjK; rw [List.contains_iff_mem]
theorem adjK_sym {ks : List Stt} (hk : keysOk ks = true) {s t : Stt} (hs : okN ks.length s) (ht : okN ks.length t) : adjK ks s t = adjK ks t s := by
  rw [Bool.eq_iff_iff, adjK_iff, adjK_iff]
  exact ⟨fun h => stepK_back hk hs h, fun h => stepK_back hk ht h⟩
theorem deg_adj {ks : List Stt} (hk : keysOk ks = true) {s : Stt} (hs : okN ks.length s) : (tsK ks.length).countP (adjK ks s) = gK ks s := by
  have hp : (stepK ks s).Perm ((tsK ks.length).filter (adjK ks s)) := by
    rw [List.perm_ext_iff_of_nodup (stepG_nodup hs) (List.Pairwise.filter _ (tsK_nodup ks.length))]
    intro t
    rw [List.mem_filter, adjK_iff]
    exact ⟨fun h => ⟨tsK_mem _ _ ((setupK hk).next s hs t h), h⟩, fun h => h.2⟩
  rw [List.countP_eq_length_filter, ← hp.length_eq, step_lenK]
  rfl
theorem pairs_deg {ks : List Stt} (hk : keysOk ks = true) : Graph.pairs (adjK ks) (tsK ks.length) = sumS (gK ks) (tsK ks.length) :=
  Graph.sum_same _ _ _ (fun s hs => deg_adj hk (tsK_ok _ s hs))
/-! ### The first state of a part -/
theorem clsK_self {ks : List Stt} (hk : keysOk ks = true) {s : Stt} (hs : okN ks.length s) : clsK ks s s = true := by
  have I : Inv (stepK ks) s (foundK ks s) (foundK ks s).q.length := (found_good (setupK hk) hs).1
  unfold clsK
  rw [I.zero]
  rfl
theorem find_congr {p q : Stt → Bool} : ∀ {l : List Stt}, (∀ x ∈ l, p x = q x) → l.find? p = l.find? q
  | [], _ => rfl
  | a :: l, h => by
    rw [List.find?_cons, List.find?_cons, h a List.mem_cons_self, find_congr (fun x hx => h x (List.mem_cons_of_mem _ hx))]
def rootK (ks : List Stt) (v : Stt) : Stt := ((tsK ks.length).find? (fun s => clsK ks s v)).getD []
theorem root_spec {ks : List Stt} (hk : keysOk ks = true) {v : Stt} (hv : okN ks.length v) : okN ks.length (rootK ks v) ∧ clsK ks (rootK ks v) v = true := by
  unfold rootK
  cases e : (tsK ks.length).find? (fun s => clsK ks s v) with
  | none =>
    have := List.find?_eq_none.1 e v (tsK_mem _ _ hv)
    exact absurd (clsK_self hk hv) this
  | some r =>
    have h : clsK ks r v = true := List.find?_some (p := fun s => clsK ks s v) e
    exact ⟨tsK_ok _ r (List.mem_of_find?_eq_some e), h⟩
theorem root_same {ks : List Stt} (hk : keysOk ks = true) {u v : Stt} (hu : okN ks.length u) (hv : okN ks.length v) (h : clsK ks u v = true) : rootK ks u = rootK ks v := by
  unfold rootK
  rw [find_congr (q := fun s => clsK ks s v) (fun s hs => ?_)]
  have ho := tsK_ok _ s hs
  rw [clsK_sym hk s u ho hu, clsK_sym hk s v ho hv, clsK_trans hk u v hu hv h s]
def fK (ks : List Stt) (v : Stt) : Nat := Bfs.d (foundK ks (rootK ks v)) v
theorem pred_of {ks : List Stt} (hk : keysOk ks = true) {r : Stt} (hr : okN ks.length r) {x : Stt} {k : Nat} (h : (foundK ks r).far x = some (k + 1)) : ∃ b, okN ks.length b ∧ (foundK ks r).far b = some k ∧ x ∈ stepK ks b := by
  obtain ⟨hI, hG⟩ := found_good (setupK hk) hr
  have hI : Inv (stepK ks) r (foundK ks r) (foundK ks r).q.length := hI
  have hG : GoodS (okN ks.length) (foundK ks r) := hG
  have hF := hI.final
  have hp := hF.path x (k + 1) h
  cases hp with
  | @snoc _ b _ hb hx =>
    obtain ⟨m, hm, hmk⟩ := hF.least b k hb
    obtain ⟨m2, hm2, hle⟩ := hF.least x (m + 1) (.snoc (hF.path b m hm) hx)
    rw [h] at hm2
    have hmn : m = k := by have := Option.some.inj hm2; omega
    subst hmn
    exact ⟨b, hG.ok b ((hF.iff b).1 (by rw [hm]; rfl)), hm, hx⟩
theorem fK_pred {ks : List Stt} (hk : keysOk ks = true) {v : Stt} (hv : okN ks.length v) (h : fK ks v ≠ 0) : ∃ t ∈ tsK ks.length, adjK ks v t = true ∧ fK ks t + 1 = fK ks v := by
  obtain ⟨hr, hc⟩ := root_spec hk hv
  have hc' := hc
  unfold clsK at hc'
  obtain ⟨n, hn⟩ := Option.isSome_iff_exists.1 hc'
  have hfv : fK ks v = n := by unfold fK Bfs.d; rw [hn]; rfl
  obtain ⟨k, rfl⟩ : ∃ k, n = k + 1 := ⟨n - 1, by omega⟩
  obtain ⟨b, hb, hfb, hvb⟩ := pred_of hk hr hn
  have hcb : clsK ks (rootK ks v) b = true := by unfold clsK; rw [hfb]; rfl
  have hbr : rootK ks b = rootK ks v := by
    refine root_same hk hb hv ?_
    rw [clsK_sym hk b v hb hv, ← clsK_trans hk (rootK ks v) v hr hv hc b]
    exact hcb
  refine ⟨b, tsK_mem _ _ hb, adjK_iff.2 (stepK_back hk hb hvb), ?_⟩
  have : fK ks b = k := by unfold fK Bfs.d; rw [hbr, hfb]; rfl
  rw [this, hfv]
theorem same_len {l : List Stt} (hn : l.Nodup) (h : ∀ x ∈ l, ∀ y ∈ l, x = y) : l.length ≤ 1 := by
  match l, hn, h with
  | [], _, _ => exact Nat.zero_le _
  | [_], _, _ => exact Nat.le_refl _
  | a :: b :: l, hn, h =>
    have e := h a List.mem_cons_self b (List.mem_cons_of_mem _ List.mem_cons_self)
    rw [e] at hn
    exact absurd List.mem_cons_self (List.nodup_cons.1 hn).1
/-- So many parts at least as there are states that do not reach each other. -/
theorem cnt_ge {cls : Stt → Stt → Bool} {ok : Stt → Prop} (hr : ∀ x, ok x → cls x x = true) (hs : ∀ x y, ok x → ok y → cls x y = cls y x) (ht : ∀ x y, ok x → ok y → cls x y = true → ∀ t, cls x t = cls y t) :
    ∀ (l : List Stt) (g : Stt → Bool) (R : List Stt), (∀ x ∈ l, ok x) → R.Nodup → (∀ x ∈ R, x ∈ l ∧ g x = false) → (∀ x ∈ R, ∀ y ∈ R, cls x y = true → x = y) → R.length ≤ cnt cls l g
  | [], g, R, _, _, h, _ => by
    cases R with
    | nil => exact Nat.zero_le _
    | cons a R => exact absurd (h a List.mem_cons_self).1 List.not_mem_nil
  | s :: l, g, R, hl, hn, h, hu => by
    have hos := hl s List.mem_cons_self
    have hl' : ∀ x ∈ l, ok x := fun x hx => hl x (List.mem_cons_of_mem _ hx)
    unfold cnt
    by_cases c : g s = true
    · rw [if_pos c]
      refine cnt_ge hr hs ht l g R hl' hn (fun x hx => ?_) hu
      obtain ⟨h1, h2⟩ := h x hx
      refine ⟨?_, h2⟩
      rcases List.mem_cons.1 h1 with e | h1
      · rw [e, c] at h2; cases h2
      · exact h1
    · rw [if_neg c]
      have e1 := cnt_ge hr hs ht l (fun t => g t || cls s t) (R.filter (fun x => !cls s x)) hl' (List.Pairwise.filter _ hn) (fun x hx => by
        obtain ⟨h1, h2⟩ := List.mem_filter.1 hx
        obtain ⟨h3, h4⟩ := h x h1
        have h5 : cls s x = false := by simpa using h2
        refine ⟨?_, by rw [h4, h5]; rfl⟩
        rcases List.mem_cons.1 h3 with e | h3
        · rw [e, hr s hos] at h5; cases h5
        · exact h3) (fun x hx y hy => hu x (List.mem_filter.1 hx).1 y (List.mem_filter.1 hy).1)
      have e2 := same_len (l := R.filter (cls s)) (List.Pairwise.filter _ hn) (fun x hx y hy => by
        obtain ⟨hx1, hx2⟩ := List.mem_filter.1 hx
        obtain ⟨hy1, hy2⟩ := List.mem_filter.1 hy
        have hox := hl x (h x hx1).1
        refine hu x hx1 y hy1 ?_
        rw [ht x s hox hos (by rw [hs x s hox hos]; exact hx2)]
        exact hy2)
      have e3 := List.length_eq_countP_add_countP (cls s) (l := R)
      rw [List.countP_eq_length_filter, List.countP_eq_length_filter] at e3
      have e4 : R.filter (fun x => !cls s x) = R.filter (fun a => decide (¬ cls s a = true)) := by
        congr 1
        funext a
        cases cls s a <;> rfl
      rw [e4] at e1
      omega
theorem parts_ge {ks : List Stt} (hk : keysOk ks = true) (R : List Stt) (hR : R.Nodup) (ho : ∀ x ∈ R, okN ks.length x) (hu : ∀ x ∈ R, ∀ y ∈ R, clsK ks x y = true → x = y) : R.length ≤ partsK ks :=
  cnt_ge (ok := okN ks.length) (fun x hx => clsK_self hk hx) (clsK_sym hk) (clsK_trans hk) _ _ R (tsK_ok _) hR (fun x hx => ⟨tsK_mem _ _ (ho x hx), rfl⟩) hu
theorem parts_le (ks : List Stt) : partsK ks ≤ 2 ^ ks.length := by
  have h := cnt_le (clsK ks) (tsK ks.length) (fun _ => false)
  rwa [tsK_length] at h
/-- Links: at least as many as states less parts. -/
theorem links_ge {ks : List Stt} (hk : keysOk ks = true) : 2 * 2 ^ ks.length ≤ sumS (gK ks) (tsK ks.length) + 2 * partsK ks := by
  have h1 := Graph.pairs_ge (tsK ks.length) (adjK ks) (fun u hu v hv => adjK_sym hk (tsK_ok _ u hu) (tsK_ok _ v hv)) (fK ks) (fun v hv h => fK_pred hk (tsK_ok _ v hv) h)
  rw [pairs_deg hk] at h1
  have h2 := parts_ge hk ((tsK ks.length).filter (fun v => fK ks v == 0)) (List.Pairwise.filter _ (tsK_nodup _)) (fun x hx => tsK_ok _ x (List.mem_filter.1 hx).1) (fun x hx y hy hc => by
    obtain ⟨hx1, hx2⟩ := List.mem_filter.1 hx
    obtain ⟨hy1, hy2⟩ := List.mem_filter.1 hy
    have hox := tsK_ok _ x hx1
    have hoy := tsK_ok _ y hy1
    have key : ∀ {v : Stt}, okN ks.length v → (fK ks v == 0) = true → v = rootK ks v := fun {v} hv h0 => by
      obtain ⟨hr, hc⟩ := root_spec hk hv
      have I : Inv (stepK ks) (rootK ks v) (foundK ks (rootK ks v)) (foundK ks (rootK ks v)).q.length := (found_good (setupK hk) hr).1
      unfold clsK at hc
      obtain ⟨n, hn⟩ := Option.isSome_iff_exists.1 hc
      have hfv : fK ks v = n := by unfold fK Bfs.d; rw [hn]; rfl
      have h0 : fK ks v = 0 := by simpa using h0
      have p := I.path v n hn
      rw [hfv] at h0
      subst h0
      generalize rootK ks v = r at p ⊢
      cases p
      rfl
    rw [key hox hx2, key hoy hy2, root_same hk hox hoy hc])
  have h3 := List.length_eq_countP_add_countP (fun v => fK ks v == 0) (l := tsK ks.length)
  have e : (tsK ks.length).countP (fun v => fK ks v != 0) = (tsK ks.length).countP (fun a => decide (¬ (fK ks a == 0) = true)) := by
    congr 1
    funext a
    show (!(fK ks a == 0)) = _
    cases (fK ks a == 0) <;> rfl
  rw [tsK_length, List.countP_eq_length_filter, ← e] at h3
  omega
theorem mv_sum_le {ks : List Stt} : sumS (gK ks) (tsK ks.length) ≤ 2 ^ ks.length * ks.length := by
  have h := sumS_le (gK ks) ks.length (tsK ks.length) (fun s _ => mvK_len ks s ks.length)
  rwa [tsK_length] at h
/-! ### The longest -/
theorem TK_le {ks : List Stt} {s : Stt} (hs : okN ks.length s) : TK ks s ≤ longK ks := by
  have h := le_upM (fun i => TK ks (stOf ks.length i)) (2 ^ ks.length) (num s) (numN_lt hs)
  have e := stOf_num s hs.2
  rw [hs.1] at e
  simp only [e] at h
  exact h
theorem long_le {ks : List Stt} {c : Nat} (h : ∀ s, okN ks.length s → TK ks s ≤ c) : longK ks ≤ c := upM_le _ _ _ (fun i _ => h _ ⟨stOf_length _ _, stOf_ok _ _⟩)
theorem TK_lt {ks : List Stt} (hk : keysOk ks = true) {s : Stt} (hs : okN ks.length s) : TK ks s < 2 ^ ks.length := by
  obtain ⟨h1, h2, t, ht, h3⟩ := TK_facts hk hs
  obtain ⟨I, G⟩ := found_good (setupK hk) hs
  have I : Inv (stepK ks) s (foundK ks s) (foundK ks s).q.length := I
  have G : GoodS (okN ks.length) (foundK ks s) := G
  have := G.bnd t _ h3
  have := G.len (setupK hk) I.nodup
  omega
theorem long_lt {ks : List Stt} (hk : keysOk ks = true) : longK ks < 2 ^ ks.length := by
  have hp : 0 < 2 ^ ks.length := Nat.pow_pos (by decide)
  have h := long_le (ks := ks) (c := 2 ^ ks.length - 1) (fun s hs => by have := TK_lt hk hs; omega)
  omega
/-! ### A line -/
theorem one_part {ks : List Stt} (hk : keysOk ks = true) (h : partsK ks = 1) {s t : Stt} (hs : okN ks.length s) (ht : okN ks.length t) : clsK ks s t = true := by
  cases e : clsK ks s t with
  | true => rfl
  | false =>
    exfalso
    have hst : s ≠ t := fun h => by rw [h, clsK_self hk ht] at e; cases e
    have e2 : clsK ks t s = false := by rw [clsK_sym hk t s ht hs]; exact e
    have h2 := parts_ge hk [s, t] (by simp [hst]) (fun x hx => by
      simp only [List.mem_cons, List.not_mem_nil, or_false] at hx
      rcases hx with rfl | rfl
      · exact hs
      · exact ht) (fun x hx y hy hc => by
      simp only [List.mem_cons, List.not_mem_nil, or_false] at hx hy
      rcases hx with rfl | rfl <;> rcases hy with rfl | rfl
      · rfl
      · rw [e] at hc; cases hc
      · rw [e2] at hc; cases hc
      · rfl)
    rw [h, List.length_cons, List.length_cons] at h2
    omega
theorem no_step {ks : List Stt} {s : Stt} (h : stepK ks s = []) {n : Nat} {x : Stt} (p : Path (stepK ks) s n x) : x = s := by
  induction p with
  | nil => rfl
  | @snoc n b c _ hc ih =>
    subst ih
    rw [h] at hc
    cases hc
theorem deg_pos {ks : List Stt} (hk : keysOk ks = true) (h : partsK ks = 1) {s : Stt} (hs : okN ks.length s) : 1 ≤ gK ks s := by
  cases e : stepK ks s with
  | cons a l =>
    have := step_lenK ks s
    rw [e, List.length_cons] at this
    unfold gK
    omega
  | nil =>
    exfalso
    have hn := (keys_parts hk).1.1
    have hc := one_part hk h hs (okN_flip hs 0)
    unfold clsK at hc
    obtain ⟨n, hn2⟩ := Option.isSome_iff_exists.1 hc
    have I : Inv (stepK ks) s (foundK ks s) (foundK ks s).q.length := (found_good (setupK hk) hs).1
    exact flip_neG hs (k := 0) (by omega) (no_step e (I.path _ n hn2))
theorem degN_mem {ks : List Stt} {x : Nat} : x ∈ degN ks ↔ ∃ s, okN ks.length s ∧ gK ks s = x := by
  unfold degN
  rw [List.mem_map]
  constructor
  · rintro ⟨s, hs, rfl⟩
    exact ⟨s, tsK_ok _ s ((states_perm ks.length).mem_iff.1 hs), rfl⟩
  · rintro ⟨s, hs, rfl⟩
    exact ⟨s, (states_perm ks.length).mem_iff.2 (tsK_mem _ _ hs), rfl⟩
theorem degN_sum (ks : List Stt) : (degN ks).sum = sumS (gK ks) (tsK ks.length) := by
  unfold degN sumS
  exact ((states_perm ks.length).map (gK ks)).sum_nat
theorem line_sum {ks : List Stt} (hk : keysOk ks = true) (hb : big (degN ks) = false) (he : ends (degN ks) = 2) (hp : partsK ks = 1) : sumS (gK ks) (tsK ks.length) + 2 = 2 * 2 ^ ks.length := by
  have h := Graph.sum_ends (degN ks) (fun x hx => by
    obtain ⟨s, hs, rfl⟩ := degN_mem.1 hx
    refine ⟨deg_pos hk hp hs, ?_⟩
    unfold big at hb
    rw [List.any_eq_false] at hb
    have := hb _ hx
    simpa using this)
  unfold ends at he
  rw [he, degN_sum, degN_len] at h
  exact h
theorem line_inj {ks : List Stt} (hk : keysOk ks = true) (hd : ∀ s, okN ks.length s → gK ks s ≤ 2) {e : Stt} (he : okN ks.length e) (h1 : gK ks e = 1) : ∀ (k : Nat) (x y : Stt), (foundK ks e).far x = some k → (foundK ks e).far y = some k → x = y := by
  have I : Inv (stepK ks) e (foundK ks e) (foundK ks e).q.length := (found_good (setupK hk) he).1
  have zero : ∀ x, (foundK ks e).far x = some 0 → x = e := fun x h => by
    have p := I.path x 0 h
    cases p
    rfl
  have len : ∀ s, (stepK ks s).length = gK ks s := fun s => step_lenK ks s
  intro k
  induction k with
  | zero => intro x y hx hy; rw [zero x hx, zero y hy]
  | succ k ih =>
    intro x y hx hy
    obtain ⟨p, hop, hp, hxp⟩ := pred_of hk he hx
    obtain ⟨q, hoq, hq, hyq⟩ := pred_of hk he hy
    obtain rfl : p = q := ih p q hp hq
    cases k with
    | zero =>
      have := zero p hp
      subst this
      exact Graph.one_only (by rw [len, h1]; exact Nat.le_refl _) hxp hyq
    | succ k =>
      obtain ⟨r, hor, hr, hpr⟩ := pred_of hk he hp
      refine Graph.two_only (by rw [len]; exact hd p hop) (stepK_back hk hor hpr) hxp hyq ?_ ?_
      · intro e
        rw [e, hr] at hx
        have := Option.some.inj hx
        omega
      · intro e
        rw [e, hr] at hy
        have := Option.some.inj hy
        omega
/-- A line is as long as there are states. -/
theorem line_long {ks : List Stt} (hk : keysOk ks = true) (hb : big (degN ks) = false) (he : ends (degN ks) = 2) (hp : partsK ks = 1) : longK ks + 1 = 2 ^ ks.length := by
  have hd : ∀ s, okN ks.length s → gK ks s ≤ 2 := fun s hs => by
    unfold big at hb
    rw [List.any_eq_false] at hb
    have := hb _ (degN_mem.2 ⟨s, hs, rfl⟩)
    simpa using this
  have hpos : 0 < (degN ks).countP (fun x => x == 1) := by
    have : ends (degN ks) = (degN ks).countP (fun x => x == 1) := rfl
    omega
  obtain ⟨x, hx, hx1⟩ := List.countP_pos_iff.1 hpos
  obtain ⟨e, hoe, hge⟩ := degN_mem.1 hx
  have h1 : gK ks e = 1 := by rw [hge]; simpa using hx1
  obtain ⟨f1, f2, _⟩ := TK_facts hk hoe
  have some_of : ∀ x, okN ks.length x → (foundK ks e).far x = some (Bfs.d (foundK ks e) x) := fun x hx => by
    have hc := one_part hk hp hoe hx
    unfold clsK at hc
    obtain ⟨n, hn⟩ := Option.isSome_iff_exists.1 hc
    unfold Bfs.d
    rw [hn]
    rfl
  have h := Graph.far_all (tsK ks.length) (tsK_nodup _) (Bfs.d (foundK ks e)) (TK ks e) (fun x hx => f1 x _ (some_of x (tsK_ok _ x hx))) (fun x hx y hy hxy => by
    refine line_inj hk hd hoe h1 (Bfs.d (foundK ks e) x) x y (some_of x (tsK_ok _ x hx)) ?_
    rw [hxy]
    exact some_of y (tsK_ok _ y hy))
  rw [tsK_length] at h
  have h2 := TK_le hoe
  have h3 := long_lt hk
  omega
end Go.Proofs.YtbmbehkdidlolaaGreatDoor.Lem
namespace Go.Proofs.YtbmbehkdidlolaaGreatDoor.Lem
open Go.RowKit Go.Proofs.YtbmbehkdidlolaaGreatDoor.PT Go.Proofs.YtbmbehkdidlolaaGreatDoorW.PrintWords Go.Proofs.YtbmbehkdidlolaaGreatDoorW.PrintLast Go.Proofs.YtbmbehkdidlolaaGreatDoorW.PrintMore Go.Proofs.YtbmbehkdidlolaaGreatDoor.Ring Go.Proofs.YtbmbehkdidlolaaGreatDoor.Bfs
set_option linter.unusedVariables false
set_option linter.unusedSimpArgs false

def rvK (ks : List Stt) : List Stt := ks.reverse.map List.reverse
theorem rvK_len (ks : List Stt) : (rvK ks).length = ks.length := by unfold rvK; rw [List.length_map, List.length_reverse]
theorem rvK_rvK (ks : List Stt) : rvK (rvK ks) = ks := by
  unfold rvK
  rw [← List.map_reverse, List.reverse_reverse, List.map_map]
  have : (List.reverse ∘ List.reverse : Stt → Stt) = id := by funext x; exact List.reverse_reverse x
  rw [this, List.map_id]
theorem rvK_get {ks : List Stt} {k : Nat} (h : k < ks.length) : (rvK ks).getD k [] = (ks.getD (ks.length - 1 - k) []).reverse := by
  have h2 : k < (rvK ks).length := by rw [rvK_len]; exact h
  have h3 : ks.length - 1 - k < ks.length := by omega
  rw [getD_get h2, getD_get h3]
  exact (List.getElem_map (l := ks.reverse) List.reverse (h := by rw [List.length_map, List.length_reverse]; exact h)).trans (by rw [List.getElem_reverse])
theorem keyOk_rv {n k : Nat} {key : Stt} (hk : k < n) (h : keyOk n k key = true) : keyOk n (n - 1 - k) key.reverse = true := by
  unfold keyOk at h ⊢
  simp only [Bool.and_eq_true, decide_eq_true_eq] at h ⊢
  obtain ⟨h1, h2, h3⟩ := h
  refine ⟨by rw [List.length_reverse]; exact h1, ?_, by rw [List.all_reverse]; exact h3⟩
  rw [List.getElem?_reverse (by omega), h1, show n - 1 - (n - 1 - k) = k by omega]
  exact h2
theorem keysOk_rv {ks : List Stt} (hk : keysOk ks = true) : keysOk (rvK ks) = true := by
  unfold keysOk at hk ⊢
  rw [Bool.and_eq_true, decide_eq_true_eq, List.all_eq_true] at hk ⊢
  rw [rvK_len]
  refine ⟨hk.1, fun k hkm => ?_⟩
  rw [List.mem_range'_1] at hkm
  have hkl : k < ks.length := by omega
  have h := hk.2 (ks.length - 1 - k) (by rw [List.mem_range'_1]; omega)
  rw [rvK_get hkl]
  have h2 := keyOk_rv (by omega) h
  rwa [show ks.length - 1 - (ks.length - 1 - k) = k by omega] at h2
theorem getD_rev {l : Stt} {i : Nat} (h : i < l.length) : l.reverse.getD i 0 = l.getD (l.length - 1 - i) 0 := by
  rw [List.getD_eq_getElem?_getD, List.getElem?_reverse h, ← List.getD_eq_getElem?_getD]
theorem fits_rv1 {key s : Stt} (h : key.length = s.length) (hf : fits key s = true) : fits key.reverse s.reverse = true := by
  unfold fits at hf ⊢
  rw [List.all_eq_true] at hf ⊢
  intro i hi
  rw [List.mem_range'_1, List.length_reverse] at hi
  have h2 := hf (key.length - 1 - i) (by rw [List.mem_range'_1]; omega)
  unfold fitAt at h2 ⊢
  rw [getD_rev (by omega), getD_rev (by omega), ← h]
  exact h2
theorem okN_rv {n : Nat} {s : Stt} (h : okN n s) : okN n s.reverse := ⟨by rw [List.length_reverse]; exact h.1, by rw [List.all_reverse]; exact h.2⟩
theorem flip_rv {s : Stt} {k : Nat} (h : k < s.length) : flipAt s.reverse (s.length - 1 - k) = (flipAt s k).reverse := by
  apply List.ext_getElem?
  intro j
  rw [flipAt_get]
  by_cases hj : j < s.length
  · rw [List.getElem?_reverse hj, List.getElem?_reverse (by rw [flipAt_length]; exact hj), flipAt_length, flipAt_get]
    by_cases c : k = s.length - 1 - j
    · rw [if_pos c, if_pos (by omega)]
    · rw [if_neg c, if_neg (by omega)]
  · rw [List.getElem?_eq_none (l := (flipAt s k).reverse) (by rw [List.length_reverse, flipAt_length]; omega), List.getElem?_eq_none (l := s.reverse) (by rw [List.length_reverse]; omega)]
    split <;> rfl
theorem step_rv {ks : List Stt} (hk : keysOk ks = true) {s t : Stt} (hs : okN ks.length s) (h : t ∈ stepK ks s) : t.reverse ∈ stepK (rvK ks) s.reverse := by
  obtain ⟨k, hm, rfl⟩ := List.mem_map.1 h
  obtain ⟨hkl, hf⟩ := mvK_lt hm
  have hks : k < s.length := by rw [hs.1]; exact hkl
  rw [← flip_rv hks]
  refine List.mem_map_of_mem ?_
  unfold mvK
  rw [rvK_len, List.mem_filter, List.mem_range, hs.1]
  refine ⟨by omega, ?_⟩
  rw [rvK_get (by omega), show ks.length - 1 - (ks.length - 1 - k) = k by omega]
  refine fits_rv1 ?_ hf
  rw [getD_get hkl, ((keys_parts hk).2 k hkl).1, hs.1]
theorem far_rv_le {ks : List Stt} (hk : keysOk ks = true) {s t : Stt} (hs : okN ks.length s) {n : Nat} (h : (foundK ks s).far t = some n) : ∃ m, (foundK (rvK ks) s.reverse).far t.reverse = some m ∧ m ≤ n := by
  have hk2 := keysOk_rv hk
  have hs2 : okN (rvK ks).length s.reverse := by rw [rvK_len]; exact okN_rv hs
  have I : Inv (stepK ks) s (foundK ks s) (foundK ks s).q.length := (found_good (setupK hk) hs).1
  have I2 : Inv (stepK (rvK ks)) s.reverse (foundK (rvK ks) s.reverse) (foundK (rvK ks) s.reverse).q.length := (found_good (setupK hk2) hs2).1
  exact I2.final.least _ n ((I.path t n h).mapped (step' := stepK (rvK ks)) (g := List.reverse) (P := okN ks.length) (fun a b ha hb => (setupK hk).next a ha b hb) (fun a b ha hb => step_rv hk ha hb) hs).2
theorem far_rv {ks : List Stt} (hk : keysOk ks = true) {s : Stt} (hs : okN ks.length s) (t : Stt) : (foundK (rvK ks) s.reverse).far t.reverse = (foundK ks s).far t := by
  have back : ∀ n, (foundK (rvK ks) s.reverse).far t.reverse = some n → ∃ m, (foundK ks s).far t = some m ∧ m ≤ n := fun n h => by
    have hs2 : okN (rvK ks).length s.reverse := by rw [rvK_len]; exact okN_rv hs
    have h2 := far_rv_le (keysOk_rv hk) hs2 h
    rw [rvK_rvK, List.reverse_reverse, List.reverse_reverse] at h2
    exact h2
  cases h : (foundK ks s).far t with
  | none =>
    cases h2 : (foundK (rvK ks) s.reverse).far t.reverse with
    | none => rfl
    | some m =>
      obtain ⟨k, hk2, _⟩ := back m h2
      rw [h] at hk2
      cases hk2
  | some n =>
    obtain ⟨m, hm, h1⟩ := far_rv_le hk hs h
    obtain ⟨k, hk2, h2⟩ := back m hm
    rw [h] at hk2
    have := Option.some.inj hk2
    rw [hm]
    congr 1
    omega
theorem cls_rv {ks : List Stt} (hk : keysOk ks = true) {s : Stt} (hs : okN ks.length s) (t : Stt) : clsK (rvK ks) s.reverse t.reverse = clsK ks s t := by
  unfold clsK
  rw [far_rv hk hs t]
theorem cnt_map {cls cls' : Stt → Stt → Bool} : ∀ (l : List Stt) (g g' : Stt → Bool), (∀ t, g' t.reverse = g t) → (∀ s ∈ l, ∀ t, cls' s.reverse t.reverse = cls s t) → cnt cls' (l.map List.reverse) g' = cnt cls l g
  | [], _, _, _, _ => rfl
  | s :: l, g, g', hg, h => by
    rw [List.map_cons]
    unfold cnt
    rw [hg s]
    have h' : ∀ x ∈ l, ∀ t, cls' x.reverse t.reverse = cls x t := fun x hx => h x (List.mem_cons_of_mem _ hx)
    by_cases c : g s = true
    · rw [if_pos c, if_pos c, cnt_map l g g' hg h']
    · rw [if_neg c, if_neg c, cnt_map l (fun t => g t || cls s t) (fun t => g' t || cls' s.reverse t) (fun t => by rw [hg t, h s List.mem_cons_self t]) h']
theorem tsK_rv (n : Nat) : ((tsK n).map List.reverse).Perm (tsK n) := by
  rw [List.perm_ext_iff_of_nodup ?_ (tsK_nodup n)]
  · intro s
    constructor
    · intro h
      obtain ⟨t, ht, rfl⟩ := List.mem_map.1 h
      exact tsK_mem n _ (okN_rv (tsK_ok n t ht))
    · intro h
      exact List.mem_map.2 ⟨s.reverse, tsK_mem n _ (okN_rv (tsK_ok n s h)), List.reverse_reverse s⟩
  · unfold List.Nodup
    rw [List.pairwise_map]
    refine List.Pairwise.imp (fun {a b} hab e => hab ?_) (tsK_nodup n)
    rw [← List.reverse_reverse a, e, List.reverse_reverse]
theorem parts_rv {ks : List Stt} (hk : keysOk ks = true) : partsK (rvK ks) = partsK ks := by
  have hk2 := keysOk_rv hk
  unfold partsK
  have h1 := cnt_perm (ok := okN (rvK ks).length) (clsK_sym hk2) (clsK_trans hk2) (tsK_rv (rvK ks).length) (fun s hs => tsK_ok _ s ((tsK_rv (rvK ks).length).mem_iff.1 hs)) (fun _ => false)
  rw [← h1, rvK_len]
  exact cnt_map (tsK ks.length) _ _ (fun _ => rfl) (fun s hs t => cls_rv hk (tsK_ok _ s hs) t)
theorem long_rv_le {ks : List Stt} (hk : keysOk ks = true) : longK ks ≤ longK (rvK ks) := by
  refine long_le (fun s hs => ?_)
  obtain ⟨_, _, t, ht, h3⟩ := TK_facts hk hs
  have hs2 : okN (rvK ks).length s.reverse := by rw [rvK_len]; exact okN_rv hs
  have h4 := far_rv hk hs t
  rw [h3] at h4
  exact Nat.le_trans ((TK_facts (keysOk_rv hk) hs2).1 _ _ h4) (TK_le hs2)
theorem long_rv {ks : List Stt} (hk : keysOk ks = true) : longK (rvK ks) = longK ks := by
  have h := long_rv_le (keysOk_rv hk)
  rw [rvK_rvK] at h
  exact Nat.le_antisymm h (long_rv_le hk)
/-! ### Keys of the bar, and free ones -/
def barK (n k : Nat) : Stt := if k = 0 then List.replicate n 63 else (List.replicate (k - 1) 48 ++ [49]) ++ List.replicate (n - k) 63
def barKs (n : Nat) : List Stt := (List.range n).map (barK n)
def freeKs (n : Nat) : List Stt := List.replicate n (List.replicate n 63)
theorem barKs_len (n : Nat) : (barKs n).length = n := by unfold barKs; rw [List.length_map, List.length_range]
theorem freeKs_len (n : Nat) : (freeKs n).length = n := List.length_replicate ..
theorem bar_ok : ∀ n : Fin 11, 1 ≤ n.val → keysOk (barKs n.val) = true := by decide +kernel
theorem free_ok : ∀ n : Fin 11, 1 ≤ n.val → keysOk (freeKs n.val) = true := by decide +kernel
theorem bar_deg : ∀ n : Fin 6, 1 ≤ n.val → big (degN (barKs n.val)) = false ∧ ends (degN (barKs n.val)) = 2 := by decide +kernel
theorem bar_next : ∀ n : Fin 6, ∀ m : Fin 31, m.val + 1 < 2 ^ n.val → (stepK (barKs n.val) (stOf n.val m.val)).contains (stOf n.val (m.val + 1)) = true := by decide +kernel
theorem bar_moves : ∀ n : Fin 6, (tsK n.val).all (fun s => mvK (barKs n.val) s n.val == mvR s) = true := by decide +kernel
theorem cnt_none (cls : Stt → Stt → Bool) : ∀ (l : List Stt) (f : Stt → Bool), (∀ x ∈ l, f x = true) → cnt cls l f = 0
  | [], _, _ => rfl
  | s :: l, f, h => by
    unfold cnt
    rw [if_pos (h s List.mem_cons_self)]
    exact cnt_none cls l f (fun x hx => h x (List.mem_cons_of_mem _ hx))
theorem one_of_all {ks : List Stt} (h : ∀ s t, okN ks.length s → okN ks.length t → clsK ks s t = true) : partsK ks = 1 := by
  unfold partsK
  have hl := tsK_length ks.length
  have hp : 0 < 2 ^ ks.length := Nat.pow_pos (by decide)
  cases e : tsK ks.length with
  | nil => rw [e, List.length_nil] at hl; omega
  | cons s l =>
    have ho : ∀ x ∈ s :: l, okN ks.length x := fun x hx => tsK_ok _ x (by rw [e]; exact hx)
    unfold cnt
    rw [if_neg Bool.false_ne_true, cnt_none _ _ _ (fun x hx => by
      show (false || clsK ks s x) = true
      rw [h s x (ho s List.mem_cons_self) (ho x (List.mem_cons_of_mem _ hx))]
      rfl)]
theorem bar_parts {n : Nat} (h1 : 1 ≤ n) (h5 : n ≤ 5) : partsK (barKs n) = 1 := by
  have hk : keysOk (barKs n) = true := bar_ok ⟨n, by omega⟩ h1
  have hl := barKs_len n
  have h32 : 2 ^ n ≤ 32 := Nat.pow_le_pow_right (by decide) h5
  have z : okN (barKs n).length (stOf n 0) := by rw [hl]; exact ⟨stOf_length _ _, stOf_ok _ _⟩
  have I : Inv (stepK (barKs n)) (stOf n 0) (foundK (barKs n) (stOf n 0)) (foundK (barKs n) (stOf n 0)).q.length := (found_good (setupK hk) z).1
  have path : ∀ m, m < 2 ^ n → Path (stepK (barKs n)) (stOf n 0) m (stOf n m) := by
    intro m
    induction m with
    | zero => intro _; exact .nil
    | succ m ih =>
      intro hm
      have h := bar_next ⟨n, by omega⟩ ⟨m, by omega⟩ hm
      rw [List.contains_iff_mem] at h
      exact .snoc (ih (by omega)) h
  have from0 : ∀ s, okN (barKs n).length s → clsK (barKs n) (stOf n 0) s = true := fun s hs => by
    have hs' : okN n s := by rw [hl] at hs; exact hs
    have e := stOf_num s hs'.2
    rw [hs'.1] at e
    obtain ⟨v, hv, _⟩ := I.final.least _ _ (path (num s) (numN_lt hs'))
    rw [e] at hv
    unfold clsK
    rw [hv]
    rfl
  refine one_of_all (fun s t hs ht => ?_)
  rw [← clsK_trans hk (stOf n 0) s z hs (from0 s hs) t]
  exact from0 t ht
theorem fits_free (n : Nat) (s : Stt) : fits (List.replicate n 63) s = true := by
  unfold fits
  rw [List.all_eq_true]
  intro i hi
  rw [List.mem_range'_1, List.length_replicate] at hi
  unfold fitAt
  rw [List.getD_eq_getElem?_getD, List.getElem?_replicate, if_pos (by omega)]
  rfl
theorem free_step {n : Nat} (s : Stt) {k : Nat} (hk : k < n) : flipAt s k ∈ stepK (freeKs n) s := by
  refine List.mem_map_of_mem ?_
  unfold mvK
  rw [freeKs_len, List.mem_filter, List.mem_range]
  refine ⟨hk, ?_⟩
  have e : (freeKs n).getD k [] = List.replicate n 63 := by
    unfold freeKs
    rw [List.getD_eq_getElem?_getD, List.getElem?_replicate, if_pos hk]
    rfl
  rw [e]
  exact fits_free n s
theorem flip_to {a b : UInt8} (ha : okc a = true) (hb : okc b = true) (h : a ≠ b) : flipC a = b := by
  rcases okc_cases ha with rfl | rfl <;> rcases okc_cases hb with rfl | rfl <;> first | exact absurd rfl h | decide
theorem flip_mid (x : UInt8) (b : Stt) : ∀ a : Stt, flipAt (a ++ x :: b) a.length = a ++ flipC x :: b
  | [] => rfl
  | c :: a => congrArg (List.cons c) (flip_mid x b a)
theorem free_path {n : Nat} {s t : Stt} (hs : okN n s) (ht : okN n t) : ∀ j, j ≤ n → ∃ m, m ≤ j ∧ Path (stepK (freeKs n)) s m (t.take j ++ s.drop j)
  | 0, _ => ⟨0, Nat.le_refl _, by rw [List.take_zero, List.drop_zero, List.nil_append]; exact .nil⟩
  | j + 1, h => by
    obtain ⟨m, hm, p⟩ := free_path hs ht j (by omega)
    have hjs : j < s.length := by rw [hs.1]; omega
    have hjt : j < t.length := by rw [ht.1]; omega
    have e1 : t.take (j + 1) ++ s.drop (j + 1) = t.take j ++ t[j] :: s.drop (j + 1) := by
      rw [List.take_succ_eq_append_getElem hjt, List.append_assoc]
      rfl
    rw [List.drop_eq_getElem_cons hjs] at p
    by_cases c : s[j] = t[j]
    · rw [c] at p
      rw [e1]
      exact ⟨m, by omega, p⟩
    · have hl : (t.take j).length = j := by rw [List.length_take]; omega
      have hfl : flipAt (t.take j ++ s[j] :: s.drop (j + 1)) j = t.take j ++ t[j] :: s.drop (j + 1) := by
        have e2 := flip_mid s[j] (s.drop (j + 1)) (t.take j)
        rw [hl] at e2
        rw [e2, flip_to (List.all_eq_true.1 hs.2 _ (List.getElem_mem hjs)) (List.all_eq_true.1 ht.2 _ (List.getElem_mem hjt)) c]
      have p2 := p.snoc (free_step (n := n) (t.take j ++ s[j] :: s.drop (j + 1)) (k := j) (by omega))
      rw [hfl] at p2
      rw [e1]
      exact ⟨m + 1, by omega, p2⟩
theorem ones_flip : ∀ n : Fin 6, (tsK n.val).all (fun s => (List.range n.val).all (fun k => decide ((flipAt s k).count 49 ≤ s.count 49 + 1))) = true := by decide +kernel
theorem ones_path {n : Nat} (h5 : n ≤ 5) {s x : Stt} (hs : okN n s) {m : Nat} (p : Path (stepK (freeKs n)) s m x) : okN n x ∧ x.count 49 ≤ s.count 49 + m := by
  induction p with
  | nil => exact ⟨hs, Nat.le_refl _⟩
  | @snoc m b c _ hc ih =>
    obtain ⟨k, hk, rfl⟩ := List.mem_map.1 hc
    have hkl := (mvK_lt hk).1
    rw [freeKs_len] at hkl
    have h := List.all_eq_true.1 (ones_flip ⟨n, by omega⟩) b (tsK_mem n b ih.1)
    have h2 := List.all_eq_true.1 h k (List.mem_range.2 hkl)
    rw [decide_eq_true_eq] at h2
    exact ⟨okN_flip ih.1 k, by omega⟩
theorem free_long {n : Nat} (h1 : 1 ≤ n) (h5 : n ≤ 5) : longK (freeKs n) = n := by
  have hk : keysOk (freeKs n) = true := free_ok ⟨n, by omega⟩ h1
  have hl := freeKs_len n
  apply Nat.le_antisymm
  · refine long_le (fun s hs => ?_)
    obtain ⟨_, _, t, ht, h3⟩ := TK_facts hk hs
    have I : Inv (stepK (freeKs n)) s (foundK (freeKs n) s) (foundK (freeKs n) s).q.length := (found_good (setupK hk) hs).1
    have hs' : okN n s := by rw [hl] at hs; exact hs
    have ht' : okN n t := by rw [hl] at ht; exact ht
    obtain ⟨m, hm, p⟩ := free_path hs' ht' n (Nat.le_refl _)
    rw [List.take_of_length_le (by rw [ht'.1]; exact Nat.le_refl _), List.drop_eq_nil_of_le (by rw [hs'.1]; exact Nat.le_refl _), List.append_nil] at p
    obtain ⟨v, hv, hvm⟩ := I.final.least t m p
    rw [h3] at hv
    have := Option.some.inj hv
    omega
  · have z : okN n (List.replicate n (48 : UInt8)) := ⟨List.length_replicate .., by rw [List.all_replicate]; simp [okc]⟩
    have o : okN n (List.replicate n (49 : UInt8)) := ⟨List.length_replicate .., by rw [List.all_replicate]; simp [okc]⟩
    have z' : okN (freeKs n).length (List.replicate n (48 : UInt8)) := by rw [hl]; exact z
    have I : Inv (stepK (freeKs n)) (List.replicate n (48 : UInt8)) (foundK (freeKs n) (List.replicate n (48 : UInt8))) (foundK (freeKs n) (List.replicate n (48 : UInt8))).q.length := (found_good (setupK hk) z').1
    obtain ⟨m, hm, p⟩ := free_path z o n (Nat.le_refl _)
    rw [List.take_of_length_le (by rw [o.1]; exact Nat.le_refl _), List.drop_eq_nil_of_le (by rw [z.1]; exact Nat.le_refl _), List.append_nil] at p
    obtain ⟨v, hv, _⟩ := I.final.least _ m p
    have h2 := (ones_path h5 z (I.path _ v hv)).2
    rw [List.count_replicate_self, List.count_replicate, if_neg (by decide)] at h2
    have h3 := (TK_facts hk z').1 _ v hv
    have h4 := TK_le z'
    omega
end Go.Proofs.YtbmbehkdidlolaaGreatDoor.Lem
