/-
  The distance between two numbers of states where two may be moved at once, told outright; the one move that leads nearer; one way of fewest moves. No program in sight.
-/
import Derived.Test.YtppbohghongfmaaDoorLemDistN
import Derived.Test.YtppbohghongfmaaDoorLemWaysN
namespace Go.Proofs.YtppbohghongfmaaDoor.Ring
set_option linter.unusedVariables false

/-- The numbers that a move of two at once leaps over. -/
def o8 (t : Nat) : Nat := if t % 8 = 1 ∨ t % 8 = 6 then 1 else 0
/-- How many numbers below t are not leapt over. -/
def W8 : Nat → Nat
  | 0 => 0
  | t + 1 => W8 t + (1 - o8 t)
def D8 (s t : Nat) : Nat := if s < t then W8 t + 1 - W8 (s + 1) else if t < s then W8 s + 1 - W8 (t + 1) else 0
theorem o8_le (t : Nat) : o8 t ≤ 1 := by unfold o8; split <;> omega
theorem W8_succ (t : Nat) : W8 (t + 1) + o8 t = W8 t + 1 := by
  have := o8_le t
  show W8 t + (1 - o8 t) + o8 t = _
  omega
theorem o8_one {t : Nat} (h : t % 8 = 1 ∨ t % 8 = 6) : o8 t = 1 := if_pos h
theorem o8_zero {t : Nat} (h : ¬ (t % 8 = 1 ∨ t % 8 = 6)) : o8 t = 0 := if_neg h
theorem o8_one' {t : Nat} (h : o8 t = 1) : t % 8 = 1 ∨ t % 8 = 6 := by
  unfold o8 at h
  by_cases c : t % 8 = 1 ∨ t % 8 = 6
  · exact c
  · rw [if_neg c] at h; cases h
theorem o8_next (t : Nat) : o8 t + o8 (t + 1) ≤ 1 := by
  unfold o8
  split <;> split <;> omega
theorem W8_mono {s t : Nat} (h : s ≤ t) : W8 s ≤ W8 t := by
  induction h with
  | refl => exact Nat.le_refl _
  | @step m _ ih => exact Nat.le_trans ih (Nat.le_add_right _ _)
theorem W8_grow {s t : Nat} (h : s ≤ t) : W8 t ≤ W8 s + (t - s) := by
  induction h with
  | refl => omega
  | @step m hm ih =>
    have h1 := W8_succ m
    have hm : s ≤ m := hm
    show W8 (m + 1) ≤ _
    omega
theorem D8_up {s t : Nat} (h : s < t) : D8 s t = W8 t + 1 - W8 (s + 1) := if_pos h
theorem D8_dn {s t : Nat} (h : t < s) : D8 s t = W8 s + 1 - W8 (t + 1) := by unfold D8; rw [if_neg (by omega), if_pos h]
theorem D8_self (s : Nat) : D8 s s = 0 := by unfold D8; rw [if_neg (by omega), if_neg (by omega)]
theorem D8_symm (s t : Nat) : D8 s t = D8 t s := by
  rcases Nat.lt_trichotomy s t with c | c | c
  · rw [D8_up c, D8_dn c]
  · rw [c]
  · rw [D8_dn c, D8_up c]
theorem D8_zero {s t : Nat} (h : D8 s t = 0) : t = s := by
  rcases Nat.lt_trichotomy s t with c | c | c
  · rw [D8_up c] at h
    have := W8_mono (show s + 1 ≤ t from c)
    omega
  · exact c.symm
  · rw [D8_dn c] at h
    have := W8_mono (show t + 1 ≤ s from c)
    omega
theorem near8_symm {a b : Nat} (h : near8 a b) : near8 b a := by unfold near8 at *; omega
/-- From a number to the next but one, over a number that is leapt over. -/
theorem leap {a b : Nat} (h : near8 a b) (hlt : a < b) : b = a + 1 ∨ (b = a + 2 ∧ o8 (a + 1) = 1) := by
  unfold near8 at h
  rcases h with h | h | ⟨h, k⟩ | ⟨h, k⟩
  · exact .inl h
  · omega
  · exact .inr ⟨h, o8_one (by omega)⟩
  · omega
theorem leap_near {a : Nat} (h : o8 (a + 1) = 1) : near8 a (a + 2) := by
  have := o8_one' h
  unfold near8
  omega
theorem near_next (a : Nat) : near8 a (a + 1) := .inl rfl
theorem D8_near1 {s a : Nat} : D8 s (a + 1) ≤ D8 s a + 1 ∧ D8 s a ≤ D8 s (a + 1) + 1 := by
  have h1 := W8_succ a
  have h2 := W8_succ (a + 1)
  have o1 := o8_le a
  have o2 := o8_le (a + 1)
  rcases Nat.lt_trichotomy s a with c | c | c
  · rw [D8_up c, D8_up (show s < a + 1 by omega)]
    have := W8_mono (show s + 1 ≤ a from c)
    omega
  · subst c
    rw [D8_self, D8_up (show s < s + 1 by omega)]
    omega
  · rw [D8_dn c]
    rcases Nat.lt_or_ge (a + 1) s with e | e
    · rw [D8_dn e]
      have := W8_mono (show a + 1 + 1 ≤ s from e)
      omega
    · obtain rfl : s = a + 1 := by omega
      rw [D8_self]
      omega
theorem D8_near2 {s a : Nat} (h : o8 (a + 1) = 1) : D8 s (a + 2) ≤ D8 s a + 1 ∧ D8 s a ≤ D8 s (a + 2) + 1 := by
  have h1 := W8_succ a
  have h2 : W8 (a + 2) + o8 (a + 1) = W8 (a + 1) + 1 := W8_succ (a + 1)
  have h3 : W8 (a + 3) + o8 (a + 2) = W8 (a + 2) + 1 := W8_succ (a + 2)
  have n1 := o8_next a
  have n2 : o8 (a + 1) + o8 (a + 2) ≤ 1 := o8_next (a + 1)
  rcases Nat.lt_trichotomy s a with c | c | c
  · rw [D8_up c, D8_up (show s < a + 2 by omega)]
    have := W8_mono (show s + 1 ≤ a from c)
    omega
  · subst c
    rw [D8_self, D8_up (show s < s + 2 by omega)]
    omega
  · rw [D8_dn c]
    rcases Nat.lt_trichotomy (a + 2) s with e | e | e
    · rw [D8_dn e]
      have : W8 (a + 3) ≤ W8 s := W8_mono (show a + 2 + 1 ≤ s from e)
      have e4 : W8 (a + 2 + 1) = W8 (a + 3) := rfl
      omega
    · rw [← e, D8_self]
      omega
    · obtain rfl : s = a + 1 := by omega
      rw [D8_up e]
      have e5 : W8 (a + 1 + 1) = W8 (a + 2) := rfl
      omega
theorem D8_near {s a b : Nat} (h : near8 a b) : D8 s b ≤ D8 s a + 1 := by
  rcases Nat.lt_or_ge a b with c | c
  · rcases leap h c with rfl | ⟨rfl, k⟩
    · exact D8_near1.1
    · exact (D8_near2 k).1
  · have hne : a ≠ b := fun e => by unfold near8 at h; omega
    rcases leap (near8_symm h) (by omega) with rfl | ⟨rfl, k⟩
    · exact D8_near1.2
    · exact (D8_near2 k).2
/-- The number nearer to s, from t. -/
def dn8 (s t : Nat) : Nat := if s < t then (if s + 2 ≤ t ∧ o8 (t - 1) = 1 then t - 2 else t - 1) else (if t + 2 ≤ s ∧ o8 (t + 1) = 1 then t + 2 else t + 1)
theorem D8_down {s t : Nat} (h : t ≠ s) : near8 (dn8 s t) t ∧ D8 s (dn8 s t) + 1 = D8 s t ∧ ((s ≤ dn8 s t ∧ dn8 s t < t) ∨ (t < dn8 s t ∧ dn8 s t ≤ s)) := by
  unfold dn8
  rcases Nat.lt_or_ge s t with c | c
  · rw [if_pos c]
    by_cases k : s + 2 ≤ t ∧ o8 (t - 1) = 1
    · rw [if_pos k]
      obtain ⟨a, rfl⟩ : ∃ a, t = a + 2 := ⟨t - 2, by omega⟩
      obtain ⟨k1, k2⟩ := k
      have k2 : o8 (a + 1) = 1 := k2
      rw [show a + 2 - 2 = a by omega]
      refine ⟨leap_near k2, ?_, .inl ⟨by omega, by omega⟩⟩
      have h1 := W8_succ a
      have h2 : W8 (a + 2) + o8 (a + 1) = W8 (a + 1) + 1 := W8_succ (a + 1)
      have n1 := o8_next a
      rw [D8_up c]
      rcases Nat.lt_or_ge s a with e | e
      · rw [D8_up e]
        have := W8_mono (show s + 1 ≤ a from e)
        omega
      · obtain rfl : s = a := by omega
        rw [D8_self]
        omega
    · rw [if_neg k]
      obtain ⟨a, rfl⟩ : ∃ a, t = a + 1 := ⟨t - 1, by omega⟩
      rw [show a + 1 - 1 = a by omega] at k ⊢
      refine ⟨near_next a, ?_, .inl ⟨by omega, by omega⟩⟩
      have h1 := W8_succ a
      rw [D8_up c]
      rcases Nat.lt_or_ge s a with e | e
      · rw [D8_up e]
        have := W8_mono (show s + 1 ≤ a from e)
        have o1 := o8_le a
        have : o8 a ≠ 1 := fun h => k ⟨by omega, h⟩
        omega
      · obtain rfl : s = a := by omega
        rw [D8_self]
        omega
  · have c : t < s := by omega
    rw [if_neg (by omega)]
    by_cases k : t + 2 ≤ s ∧ o8 (t + 1) = 1
    · rw [if_pos k]
      obtain ⟨k1, k2⟩ := k
      refine ⟨near8_symm (leap_near k2), ?_, .inr ⟨by omega, by omega⟩⟩
      have h2 : W8 (t + 2) + o8 (t + 1) = W8 (t + 1) + 1 := W8_succ (t + 1)
      have h3 : W8 (t + 3) + o8 (t + 2) = W8 (t + 2) + 1 := W8_succ (t + 2)
      have n2 : o8 (t + 1) + o8 (t + 2) ≤ 1 := o8_next (t + 1)
      rw [D8_dn c]
      rcases Nat.lt_or_ge (t + 2) s with e | e
      · rw [D8_dn e]
        have : W8 (t + 3) ≤ W8 s := W8_mono (show t + 2 + 1 ≤ s from e)
        have e4 : W8 (t + 2 + 1) = W8 (t + 3) := rfl
        omega
      · obtain rfl : s = t + 2 := by omega
        rw [D8_self]
        omega
    · rw [if_neg k]
      refine ⟨near8_symm (near_next t), ?_, .inr ⟨by omega, by omega⟩⟩
      have h2 : W8 (t + 2) + o8 (t + 1) = W8 (t + 1) + 1 := W8_succ (t + 1)
      rw [D8_dn c]
      rcases Nat.lt_or_ge (t + 1) s with e | e
      · rw [D8_dn e]
        have : W8 (t + 2) ≤ W8 s := W8_mono (show t + 1 + 1 ≤ s from e)
        have e4 : W8 (t + 1 + 1) = W8 (t + 2) := rfl
        have o1 := o8_le (t + 1)
        have : o8 (t + 1) ≠ 1 := fun h => k ⟨by omega, h⟩
        omega
      · obtain rfl : s = t + 1 := by omega
        rw [D8_self]
        omega
/-- No other number is as near. -/
theorem D8_only {s t u : Nat} (hn : near8 u t) (hd : D8 s u + 1 = D8 s t) : t ≠ s ∧ u = dn8 s t := by
  have hne : t ≠ s := fun e => by rw [e, D8_self] at hd; cases hd
  refine ⟨hne, ?_⟩
  unfold dn8
  have hut : u ≠ t := fun e => by rw [e] at hd; omega
  rcases Nat.lt_or_ge s t with c | c
  · rw [if_pos c]
    rw [D8_up c] at hd
    rcases Nat.lt_or_ge u t with g | g
    · rcases leap hn g with rfl | ⟨rfl, k⟩
      · rw [show u + 1 - 1 = u by omega]
        have h1 := W8_succ u
        by_cases k : s + 2 ≤ u + 1 ∧ o8 u = 1
        · exfalso
          rw [D8_up (show s < u by omega)] at hd
          have := W8_mono (show s + 1 ≤ u by omega)
          omega
        · rw [if_neg k]
      · rw [show u + 2 - 1 = u + 1 by omega]
        by_cases k' : s + 2 ≤ u + 2 ∧ o8 (u + 1) = 1
        · rw [if_pos k']; omega
        · exfalso
          obtain rfl : s = u + 1 := by
            have : ¬ s + 2 ≤ u + 2 := fun h => k' ⟨h, k⟩
            omega
          rw [D8_dn (show u < u + 1 by omega)] at hd
          have e5 : W8 (u + 1 + 1) = W8 (u + 2) := rfl
          omega
    · exfalso
      rcases leap (near8_symm hn) (by omega) with rfl | ⟨rfl, k⟩
      · rw [D8_up (show s < t + 1 by omega)] at hd
        have h1 := W8_succ t
        have o1 := o8_le t
        have := W8_mono (show s + 1 ≤ t from c)
        omega
      · rw [D8_up (show s < t + 2 by omega)] at hd
        have := W8_mono (show t ≤ t + 2 by omega)
        have := W8_mono (show s + 1 ≤ t from c)
        omega
  · have c : t < s := by omega
    rw [if_neg (by omega)]
    rw [D8_dn c] at hd
    rcases Nat.lt_or_ge t u with g | g
    · rcases leap (near8_symm hn) g with rfl | ⟨rfl, k⟩
      · by_cases k : t + 2 ≤ s ∧ o8 (t + 1) = 1
        · exfalso
          rw [D8_dn (show t + 1 < s by omega)] at hd
          have h2 : W8 (t + 2) + o8 (t + 1) = W8 (t + 1) + 1 := W8_succ (t + 1)
          have : W8 (t + 2) ≤ W8 s := W8_mono (show t + 1 + 1 ≤ s by omega)
          have e4 : W8 (t + 1 + 1) = W8 (t + 2) := rfl
          omega
        · rw [if_neg k]
      · by_cases k' : t + 2 ≤ s ∧ o8 (t + 1) = 1
        · rw [if_pos k']
        · exfalso
          obtain rfl : s = t + 1 := by
            have : ¬ t + 2 ≤ s := fun h => k' ⟨h, k⟩
            omega
          rw [D8_up (show t + 1 < t + 2 by omega)] at hd
          have e5 : W8 (t + 1 + 1) = W8 (t + 2) := rfl
          omega
    · exfalso
      rcases leap hn (by omega) with rfl | ⟨rfl, k⟩
      · rw [D8_dn (show u < s by omega)] at hd
        have := W8_mono (show u + 1 ≤ u + 1 + 1 by omega)
        have := W8_mono (show u + 1 + 1 ≤ s from c)
        omega
      · rw [D8_dn (show u < s by omega)] at hd
        have := W8_mono (show u + 1 ≤ u + 2 + 1 by omega)
        have := W8_mono (show u + 2 + 1 ≤ s from c)
        omega
theorem D8_uniq {s t u v : Nat} (h1 : near8 u t) (h2 : D8 s u + 1 = D8 s t) (h3 : near8 v t) (h4 : D8 s v + 1 = D8 s t) : u = v := by
  rw [(D8_only h1 h2).2, (D8_only h3 h4).2]
theorem D8_top (s t : Nat) : D8 s t ≤ (s - t) + (t - s) := by
  rcases Nat.lt_trichotomy s t with c | c | c
  · rw [D8_up c]
    have := W8_grow (show s + 1 ≤ t from c)
    omega
  · rw [c, D8_self]
    omega
  · rw [D8_dn c]
    have := W8_grow (show t + 1 ≤ s from c)
    omega
/-- A step nearer spares one plain move if it is a move of two, none else. -/
theorem D8_spare {s t u : Nat} (hn : near8 u t) (hd : D8 s u + 1 = D8 s t) : (t - s) + (s - t) = (u - s) + (s - u) + (if u + 2 = t ∨ t + 2 = u then 2 else 1) := by
  obtain ⟨hne, rfl⟩ := D8_only hn hd
  unfold dn8
  rcases Nat.lt_or_ge s t with c | c
  · rw [if_pos c]
    by_cases k : s + 2 ≤ t ∧ o8 (t - 1) = 1
    · rw [if_pos k, if_pos (by omega)]; omega
    · rw [if_neg k, if_neg (by omega)]; omega
  · rw [if_neg (by omega)]
    by_cases k : t + 2 ≤ s ∧ o8 (t + 1) = 1
    · rw [if_pos k, if_pos (by omega)]; omega
    · rw [if_neg k, if_neg (by omega)]; omega
end Go.Proofs.YtppbohghongfmaaDoor.Ring
namespace Go.Proofs.YtppbohghongfmaaDoor.Lem
open Go.Proofs.YtppbohghongfmaaDoor.Ring Go.Proofs.YtppbohghongfmaaDoor.Bfs
set_option linter.unusedVariables false

theorem nbr_of_near {r a b : Nat} (h2r : 2 ≤ r) (ha : a < 2 ^ r) (hb : b < 2 ^ r) (h : near8 a b) : b ∈ nbr r a := by
  unfold near8 at h
  rcases h with h | h | ⟨h, k⟩ | ⟨h, k⟩
  · rw [h]
    exact nbr_succ h2r (by omega)
  · refine nbr_back hb ?_
    rw [← h]
    exact nbr_succ h2r (by omega)
  · rw [h]
    exact nbr_pair h2r (by omega) k
  · refine nbr_back hb ?_
    rw [← h]
    exact nbr_pair h2r (by omega) (by omega)
theorem Path.to8 {r : Nat} (h2r : 2 ≤ r) {s : Nat} (hs : s < 2 ^ r) : ∀ n m, m < 2 ^ r → D8 s m = n → Path (nbr r) s n m
  | 0, m, hm, h => by
    rw [D8_zero h]
    exact .nil
  | n + 1, m, hm, h => by
    have hne : m ≠ s := fun e => by rw [e, D8_self] at h; cases h
    obtain ⟨hu, hd, hr⟩ := D8_down hne
    generalize dn8 s m = u at hu hd hr
    have hur : u < 2 ^ r := by omega
    exact .snoc (Path.to8 h2r hs n u hur (by omega)) (nbr_of_near h2r hur hm hu)
theorem Path.low8 {r : Nat} (h2r : 2 ≤ r) {s t n : Nat} (hs : s < 2 ^ r) (p : Path (nbr r) s n t) : D8 s t ≤ n ∧ t < 2 ^ r := by
  induction p with
  | nil => exact ⟨by rw [D8_self]; exact Nat.zero_le _, hs⟩
  | snoc _ hc ih =>
    have := D8_near (s := s) (nbr_near h2r ih.2 hc)
    exact ⟨by omega, nbr_lt hc⟩
/-- What the search finds. -/
theorem far_D8 {r : Nat} (h2r : 2 ≤ r) {s : Nat} (hs : s < 2 ^ r) {st : St Nat} (f : Final (nbr r) s st) {m : Nat} (hm : m < 2 ^ r) : st.far m = some (D8 s m) := by
  obtain ⟨v, hv, hle⟩ := f.least m _ (Path.to8 h2r hs _ m hm rfl)
  have h := Path.low8 h2r hs (f.path m v hv)
  rw [hv]
  congr 1
  omega
/-- One way of fewest moves. -/
theorem one_walk {r : Nat} (h2r : 2 ≤ r) {s : Nat} (hs : s < 2 ^ r) : ∀ n m, m < 2 ^ r → D8 s m = n → (walks (nbr r) n s).count m = 1
  | 0, m, hm, h => by
    rw [D8_zero h]
    simp [walks]
  | n + 1, m, hm, h => by
    have hne : m ≠ s := fun e => by rw [e, D8_self] at h; cases h
    obtain ⟨hu, hd, hr⟩ := D8_down hne
    generalize dn8 s m = u at hu hd hr
    have hur : u < 2 ^ r := by omega
    have ih := one_walk h2r hs n u hur (by omega)
    show ((walks (nbr r) n s).flatMap (nbr r)).count m = 1
    rw [count_flatMap, ← ih, ← sum_one]
    congr 1
    apply List.map_congr_left
    intro v hv
    have hp := Path.low8 h2r hs (walks_path n v hv)
    rw [List.Nodup.count (nbr_nodup h2r v)]
    by_cases e : v = u
    · rw [e, if_pos rfl, if_pos (nbr_of_near h2r hur hm hu)]
    · rw [if_neg e, if_neg]
      intro hmem
      have hn := nbr_near h2r hp.2 hmem
      have := D8_near (s := s) hn
      exact e (D8_uniq hn (by omega) hu hd)
theorem ways_one {r : Nat} (h2r : 2 ≤ r) {s : Nat} (hs : s < 2 ^ r) {st : St Nat} (f : Final (nbr r) s st) (w : Told r s st) {m : Nat} (hm : m < 2 ^ r) : st.ways m = 1 := by
  rw [w.1 _ m (far_D8 h2r hs f hm), one_walk h2r hs _ m hm rfl]
  exact w64 (by decide) (by decide)
end Go.Proofs.YtppbohghongfmaaDoor.Lem
