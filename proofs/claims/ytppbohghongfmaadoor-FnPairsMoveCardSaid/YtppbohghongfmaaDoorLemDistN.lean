/-
  How far the states of rings are apart when two rings may move at once: the neighbours by numbers, the distance from nought, every state is reached.
-/
import Derived.Test.YtppbohghongfmaaDoorLemWaysN
import Derived.Test.YtppbohghongfmaaDoorBfs
namespace Go.Proofs.YtppbohghongfmaaDoor.Ring
set_option linter.unusedVariables false
set_option linter.unusedSimpArgs false

theorem num_two (c : UInt8) (l : List UInt8) : num (c :: l) = 2 * num l + dig (c :: l) := by
  have h1 := num_half c l
  have h2 := num_mod c l
  omega
theorem dig_two (c : UInt8) (l : List UInt8) : dig (c :: l) = if c = 49 then 1 - num l % 2 else num l % 2 := by
  have h := dig_drop (c :: l) 0
  simp only [List.drop_zero, List.drop_succ_cons] at h
  rw [num_mod' l]
  rw [h]
  by_cases e : c = 49
  · simp [e]
  · simp [e]
theorem flip_cons (c : UInt8) (l : List UInt8) (k : Nat) : flipAt (c :: l) (k + 1) = c :: flipAt l k := by
  simp [flipAt]
theorem flip_zero (c : UInt8) (l : List UInt8) : flipAt (c :: l) 0 = flipC c :: l := by
  simp [flipAt]
theorem flip_one {c : UInt8} (h : okc c = true) : (c = 48 ∧ flipC c = 49) ∨ (c = 49 ∧ flipC c = 48) := by
  rcases okc_cases h with rfl | rfl
  · exact Or.inl ⟨rfl, rfl⟩
  · exact Or.inr ⟨rfl, rfl⟩
/-- The first ring's move: to the other number of the pair 2q, 2q + 1. -/
theorem move_zero {c : UInt8} {l : List UInt8} (h : okc c = true) : (num (c :: l) % 2 = 0 ∧ num (flipAt (c :: l) 0) = num (c :: l) + 1) ∨ (num (c :: l) % 2 = 1 ∧ num (flipAt (c :: l) 0) + 1 = num (c :: l)) := by
  rw [flip_zero, num_two, num_two (flipC c), dig_two, dig_two]
  rcases flip_one h with ⟨h1, h2⟩ | ⟨h1, h2⟩
  · rw [h2, h1, if_neg (by decide), if_pos rfl]; omega
  · rw [h2, h1, if_pos rfl, if_neg (by decide)]; omega
theorem can_cons {c : UInt8} {l : List UInt8} {k : Nat} (hk : k < l.length) : canR (c :: l) (k + 1) = if k = 0 then decide (c = 49) else (decide (c = 48) && canR l k) := by
  unfold canR
  have hk2 : k + 1 < (c :: l).length := by rw [List.length_cons]; omega
  by_cases h0 : k = 0
  · subst h0
    simp
    by_cases e : c = 49 <;> simp [e] <;> omega
  · obtain ⟨j, rfl⟩ : ∃ j, k = j + 1 := ⟨k - 1, by omega⟩
    rw [if_neg h0]
    simp [hk2, hk]
    by_cases e : c = 48 <;> simp [e, Bool.and_comm, and_comm]
/-- A ring's move that is not the first's: to the number beside on the other side. -/
theorem move_other : ∀ (l : List UInt8) (k : Nat), l.all okc = true → 1 ≤ k → k < l.length → canR l k = true → (num l % 2 = 1 ∧ num (flipAt l k) = num l + 1) ∨ (num l % 2 = 0 ∧ num (flipAt l k) + 1 = num l)
  | [], k, _, _, h, _ => absurd h (Nat.not_lt_zero k)
  | c :: l, k, ho, h1, hk, hc => by
    obtain ⟨j, rfl⟩ : ∃ j, k = j + 1 := ⟨k - 1, by omega⟩
    have hj : j < l.length := by rw [List.length_cons] at hk; omega
    have hol : l.all okc = true := by rw [List.all_cons, Bool.and_eq_true] at ho; exact ho.2
    rw [can_cons hj] at hc
    rw [flip_cons, num_two, num_two c (flipAt l j), dig_two, dig_two]
    by_cases h0 : j = 0
    · subst h0
      rw [if_pos rfl, decide_eq_true_eq] at hc
      rw [if_pos hc, if_pos hc]
      obtain ⟨d, t, rfl⟩ : ∃ d t, l = d :: t := by
        cases l with
        | nil => exact absurd hj (Nat.not_lt_zero 0)
        | cons d t => exact ⟨d, t, rfl⟩
      have hd : okc d = true := by rw [List.all_cons, Bool.and_eq_true] at hol; exact hol.1
      rcases move_zero (l := t) hd with ⟨a, b⟩ | ⟨a, b⟩ <;> omega
    · rw [if_neg h0, Bool.and_eq_true, decide_eq_true_eq] at hc
      rw [if_neg (by rw [hc.1]; decide), if_neg (by rw [hc.1]; decide)]
      rcases move_other l j hol (by omega) hj hc.2 with ⟨a, b⟩ | ⟨a, b⟩ <;> omega
theorem num48 (l : List UInt8) : num (48 :: l) = 2 * num l + num l % 2 := by
  rw [num_two, dig_two, if_neg (by decide)]
theorem num49 (l : List UInt8) : num (49 :: l) = 2 * num l + (1 - num l % 2) := by
  rw [num_two, dig_two, if_pos rfl]
/-- Both of the first two rings at once. -/
theorem move_pair {c : UInt8} {l : List UInt8} (h : okc c = true) : (num (c :: c :: l) % 8 = 0 ∧ num (flipAt (flipAt (c :: c :: l) 0) 1) = num (c :: c :: l) + 2) ∨ (num (c :: c :: l) % 8 = 2 ∧ num (flipAt (flipAt (c :: c :: l) 0) 1) + 2 = num (c :: c :: l)) ∨
    (num (c :: c :: l) % 8 = 5 ∧ num (flipAt (flipAt (c :: c :: l) 0) 1) = num (c :: c :: l) + 2) ∨ (num (c :: c :: l) % 8 = 7 ∧ num (flipAt (flipAt (c :: c :: l) 0) 1) + 2 = num (c :: c :: l)) := by
  rw [flip_zero, flip_cons, flip_zero]
  have e : (num l % 2 = 0 ∧ num (48 :: 48 :: l) = 4 * num l ∧ num (49 :: 49 :: l) = 4 * num l + 2) ∨ (num l % 2 = 1 ∧ num (48 :: 48 :: l) = 4 * num l + 3 ∧ num (49 :: 49 :: l) = 4 * num l + 1) := by
    have h1 := num48 l
    have h2 := num49 l
    have h3 := num48 (48 :: l)
    have h4 := num49 (49 :: l)
    by_cases h5 : num l % 2 = 0
    · left
      refine ⟨h5, ?_, ?_⟩ <;> omega
    · right
      refine ⟨by omega, ?_, ?_⟩ <;> omega
  rcases flip_one h with ⟨h1, h2⟩ | ⟨h1, h2⟩ <;> rw [h2, h1] <;> omega
/-- What lies beside a number. -/
def near8 (a b : Nat) : Prop := b = a + 1 ∨ b + 1 = a ∨ (b = a + 2 ∧ (a % 8 = 0 ∨ a % 8 = 5)) ∨ (b + 2 = a ∧ (a % 8 = 2 ∨ a % 8 = 7))
theorem nbr_near {r a b : Nat} (h2r : 2 ≤ r) (ha : a < 2 ^ r) (h : b ∈ nbr r a) : near8 a b := by
  unfold nbr at h
  rw [List.mem_map] at h
  obtain ⟨k, hk, rfl⟩ := h
  have hn := num_stOf r a ha
  have ho := stOf_ok r a
  rw [mem_mvP] at hk
  unfold near8
  rcases hk with ⟨rfl, e⟩ | ⟨j, rfl, h1, h2⟩
  · have e0 : mkP (stOf r a) (-1) = flipAt (flipAt (stOf r a) 0) 1 := rfl
    rw [e0]
    have hl := stOf_length r a
    generalize stOf r a = l at *
    match l, e, ho, hn, hl with
    | [], _, _, _, hl => simp at hl; omega
    | [c], e, _, _, _ => simp at e
    | c :: d :: t, e, ho, hn, _ =>
      simp at e
      subst e
      have hc : okc c = true := by rw [List.all_cons, Bool.and_eq_true] at ho; exact ho.1
      have := move_pair (l := t) hc
      rw [hn] at this
      omega
  · have e0 : mkP (stOf r a) (j : Int) = flipAt (stOf r a) j := by unfold mkP; rw [if_neg (by omega)]; rfl
    rw [e0]
    by_cases hj : j = 0
    · subst hj
      generalize stOf r a = l at *
      match l, ho, hn, h1 with
      | c :: t, ho, hn, _ =>
        have hc : okc c = true := by rw [List.all_cons, Bool.and_eq_true] at ho; exact ho.1
        have := move_zero (l := t) hc
        rw [hn] at this
        omega
    · have := move_other (stOf r a) j ho (by omega) h1 h2
      rw [hn] at this
      omega
/-! ### Every number's neighbours -/
theorem other_there : ∀ (l : List UInt8), l.all okc = true → num l % 2 = 1 → num l + 1 < 2 ^ l.length → ∃ k, 1 ≤ k ∧ k < l.length ∧ canR l k = true
  | [], _, h, _ => by simp [num] at h
  | c :: l, ho, h, hlt => by
    rw [List.all_cons, Bool.and_eq_true] at ho
    have h2 := num_two c l
    have h3 := dig_two c l
    rw [List.length_cons, Nat.pow_succ] at hlt
    rcases okc_cases ho.1 with rfl | rfl
    · rw [if_neg (by decide)] at h3
      obtain ⟨k, h4, h5, h6⟩ := other_there l ho.2 (by omega) (by omega)
      refine ⟨k + 1, by omega, by rw [List.length_cons]; omega, ?_⟩
      rw [can_cons h5, if_neg (by omega), h6]
      rfl
    · rw [if_pos rfl] at h3
      have hl : 0 < l.length := by
        cases l with
        | nil => simp [num] at h2 h3 hlt; omega
        | cons d t => simp
      refine ⟨1, Nat.le_refl _, by rw [List.length_cons]; omega, ?_⟩
      rw [can_cons hl, if_pos rfl]
      rfl
theorem nbr_succ {r a : Nat} (h2r : 2 ≤ r) (ha : a + 1 < 2 ^ r) : a + 1 ∈ nbr r a := by
  have hn := num_stOf r a (by omega)
  have ho := stOf_ok r a
  have hl := stOf_length r a
  unfold nbr
  rw [List.mem_map]
  by_cases he : a % 2 = 0
  · refine ⟨((0 : Nat) : Int), mem_mvP.2 (Or.inr ⟨0, rfl, by omega, rfl⟩), ?_⟩
    have e0 : mkP (stOf r a) ((0 : Nat) : Int) = flipAt (stOf r a) 0 := rfl
    rw [e0]
    generalize stOf r a = l at *
    match l, ho, hn, hl with
    | [], _, _, hl => simp at hl; omega
    | c :: t, ho, hn, _ =>
      have hc : okc c = true := by rw [List.all_cons, Bool.and_eq_true] at ho; exact ho.1
      have := move_zero (l := t) hc
      rw [hn] at this
      omega
  · obtain ⟨k, h1, h2, h3⟩ := other_there (stOf r a) ho (by omega) (by rw [hn, hl]; exact ha)
    refine ⟨(k : Int), mem_mvP.2 (Or.inr ⟨k, rfl, h2, h3⟩), ?_⟩
    have e0 : mkP (stOf r a) (k : Int) = flipAt (stOf r a) k := by unfold mkP; rw [if_neg (by omega)]; rfl
    rw [e0]
    have := move_other (stOf r a) k ho h1 h2 h3
    rw [hn] at this
    omega
theorem nbr_pair {r a : Nat} (h2r : 2 ≤ r) (ha : a + 2 < 2 ^ r) (h8 : a % 8 = 0 ∨ a % 8 = 5) : a + 2 ∈ nbr r a := by
  have hn := num_stOf r a (by omega)
  have ho := stOf_ok r a
  have hl := stOf_length r a
  unfold nbr
  rw [List.mem_map]
  have e0 : mkP (stOf r a) (-1) = flipAt (flipAt (stOf r a) 0) 1 := rfl
  refine ⟨-1, mem_mvP.2 (Or.inl ⟨rfl, ?_⟩), ?_⟩
  · generalize stOf r a = l at *
    match l, ho, hn, hl with
    | [], _, _, hl => simp at hl; omega
    | [c], _, _, hl => simp at hl; omega
    | c :: d :: t, ho, hn, _ =>
      simp only [List.all_cons, Bool.and_eq_true] at ho
      have e1 := num_two c (d :: t)
      have e2 := num_two d t
      have e3 := dig_two c (d :: t)
      have e4 := dig_two d t
      simp only [List.getElem?_cons_zero, List.getElem?_cons_succ]
      congr 1
      rcases okc_cases ho.1 with rfl | rfl <;> rcases okc_cases ho.2.1 with rfl | rfl
      · rfl
      · rw [if_neg (by decide)] at e3
        rw [if_pos rfl] at e4
        omega
      · rw [if_pos rfl] at e3
        rw [if_neg (by decide)] at e4
        omega
      · rfl
  · rw [e0]
    generalize stOf r a = l at *
    match l, ho, hn, hl with
    | [], _, _, hl => simp at hl; omega
    | [c], _, _, hl => simp at hl; omega
    | c :: d :: t, ho, hn, _ =>
      simp only [List.all_cons, Bool.and_eq_true] at ho
      have e1 := num_two c (d :: t)
      have e2 := num_two d t
      have e3 := dig_two c (d :: t)
      have e4 := dig_two d t
      have hcd : d = c := by
        rcases okc_cases ho.1 with rfl | rfl <;> rcases okc_cases ho.2.1 with rfl | rfl
        · rfl
        · rw [if_neg (by decide)] at e3
          rw [if_pos rfl] at e4
          omega
        · rw [if_pos rfl] at e3
          rw [if_neg (by decide)] at e4
          omega
        · rfl
      subst hcd
      have := move_pair (l := t) ho.1
      rw [hn] at this
      omega
/-- The distance from nought. -/
def dist8 (m : Nat) : Nat := 6 * (m / 8) + [0, 1, 1, 2, 3, 4, 5, 5].getD (m % 8) 0
theorem dist8_or (m : Nat) : (m % 8 = 0 ∧ dist8 m = 6 * (m / 8)) ∨ (m % 8 = 1 ∧ dist8 m = 6 * (m / 8) + 1) ∨ (m % 8 = 2 ∧ dist8 m = 6 * (m / 8) + 1) ∨ (m % 8 = 3 ∧ dist8 m = 6 * (m / 8) + 2) ∨ (m % 8 = 4 ∧ dist8 m = 6 * (m / 8) + 3) ∨ (m % 8 = 5 ∧ dist8 m = 6 * (m / 8) + 4) ∨ (m % 8 = 6 ∧ dist8 m = 6 * (m / 8) + 5) ∨ (m % 8 = 7 ∧ dist8 m = 6 * (m / 8) + 5) := by
  have h : m % 8 = 0 ∨ m % 8 = 1 ∨ m % 8 = 2 ∨ m % 8 = 3 ∨ m % 8 = 4 ∨ m % 8 = 5 ∨ m % 8 = 6 ∨ m % 8 = 7 := by omega
  unfold dist8
  rcases h with h | h | h | h | h | h | h | h <;> simp [h]
theorem dist8_near {a b : Nat} (h : near8 a b) : dist8 b ≤ dist8 a + 1 := by
  unfold near8 at h
  rcases dist8_or a with ⟨h1, h2⟩ | ⟨h1, h2⟩ | ⟨h1, h2⟩ | ⟨h1, h2⟩ | ⟨h1, h2⟩ | ⟨h1, h2⟩ | ⟨h1, h2⟩ | ⟨h1, h2⟩ <;>
  rcases dist8_or b with ⟨h3, h4⟩ | ⟨h3, h4⟩ | ⟨h3, h4⟩ | ⟨h3, h4⟩ | ⟨h3, h4⟩ | ⟨h3, h4⟩ | ⟨h3, h4⟩ | ⟨h3, h4⟩ <;> omega
/-- A number nearer to nought. -/
theorem dist8_down (m : Nat) (h : 0 < m) : ∃ a, dist8 a + 1 = dist8 m ∧ a < m ∧ (m = a + 1 ∨ (m = a + 2 ∧ (a % 8 = 0 ∨ a % 8 = 5))) := by
  have h1 := dist8_or m
  have h2 := dist8_or (m - 1)
  have h3 := dist8_or (m - 2)
  by_cases c : m % 8 = 2 ∨ m % 8 = 7
  · refine ⟨m - 2, ?_, by omega, Or.inr ⟨by omega, by omega⟩⟩
    clear h2
    rcases c with c | c <;> omega
  · refine ⟨m - 1, ?_, by omega, Or.inl (by omega)⟩
    clear h3
    omega
end Go.Proofs.YtppbohghongfmaaDoor.Ring
namespace Go.Proofs.YtppbohghongfmaaDoor.Lem
open Go.Proofs.YtppbohghongfmaaDoor.Ring Go.Proofs.YtppbohghongfmaaDoor.Bfs
set_option linter.unusedVariables false

theorem Path.upto {r : Nat} (h2r : 2 ≤ r) : ∀ m, m < 2 ^ r → Path (nbr r) 0 (dist8 m) m := by
  intro m
  induction m using Nat.strongRecOn with
  | _ m ih =>
    intro hm
    by_cases h0 : m = 0
    · subst h0
      exact .nil
    · obtain ⟨a, h1, h2, h3⟩ := dist8_down m (by omega)
      rw [← h1]
      refine .snoc (ih a h2 (by omega)) ?_
      rcases h3 with h3 | ⟨h3, h4⟩
      · rw [h3]
        exact nbr_succ h2r (by omega)
      · rw [h3]
        exact nbr_pair h2r (by omega) h4
theorem Path.below {r : Nat} (h2r : 2 ≤ r) {s t n : Nat} (hs : s < 2 ^ r) (p : Path (nbr r) s n t) : dist8 t ≤ dist8 s + n ∧ t < 2 ^ r := by
  induction p with
  | nil => exact ⟨Nat.le_refl _, hs⟩
  | snoc _ hc ih =>
    have := dist8_near (nbr_near h2r ih.2 hc)
    exact ⟨by omega, nbr_lt hc⟩
/-- From nought every number is as far as told. -/
theorem far_zero {r : Nat} (h2r : 2 ≤ r) {st : St Nat} (f : Final (nbr r) 0 st) {m : Nat} (hm : m < 2 ^ r) : st.far m = some (dist8 m) := by
  obtain ⟨v, hv, hle⟩ := f.least m _ (Path.upto h2r m hm)
  have h := Path.below h2r (Nat.two_pow_pos r) (f.path m v hv)
  have h0 : dist8 0 = 0 := rfl
  rw [hv]
  congr 1
  omega
theorem Path.joined {step : Nat → List Nat} {a b c n m : Nat} (p : Path step a n b) (q : Path step b m c) : Path step a (n + m) c := by
  induction q with
  | nil => exact p
  | snoc _ hc ih => exact .snoc ih hc
/-- Every state is reached. -/
theorem far_some {r : Nat} (h2r : 2 ≤ r) {s : Nat} (hs : s < 2 ^ r) {st : St Nat} (f : Final (nbr r) s st) {m : Nat} (hm : m < 2 ^ r) : ∃ v, st.far m = some v := by
  have p := (Path.back (P := fun a => a < 2 ^ r) (fun a b _ hb => nbr_lt hb) (fun a b ha hb => nbr_back ha hb) (Nat.two_pow_pos r) (Path.upto h2r s hs)).2
  obtain ⟨v, hv, _⟩ := f.least m _ (Path.joined p (Path.upto h2r m hm))
  exact ⟨v, hv⟩
/-- All distances up to the greatest are there. -/
theorem far_levels {r : Nat} {s : Nat} {st : St Nat} (f : Final (nbr r) s st) (hs : s < 2 ^ r) : ∀ n m, m < 2 ^ r → st.far m = some n → ∀ d, d ≤ n → ∃ t, t < 2 ^ r ∧ st.far t = some d := by
  intro n
  induction n with
  | zero =>
    intro m hm h d hd
    obtain rfl : d = 0 := by omega
    exact ⟨m, hm, h⟩
  | succ n ih =>
    intro m hm h d hd
    by_cases e : d = n + 1
    · rw [e]
      exact ⟨m, hm, h⟩
    · have hp := f.path m (n + 1) h
      cases hp with
      | @snoc _ c _ hc hcm =>
        obtain ⟨v, hv, hle⟩ := f.least c n hc
        obtain ⟨w, hw, hle2⟩ := f.least m (v + 1) (.snoc (f.path c v hv) hcm)
        rw [h] at hw
        have := Option.some.inj hw
        obtain rfl : v = n := by omega
        have hcl : c < 2 ^ r := by
          cases hc with
          | nil => exact hs
          | snoc _ h2 => exact nbr_lt h2
        exact ih c hcl hv d (by omega)
end Go.Proofs.YtppbohghongfmaaDoor.Lem
