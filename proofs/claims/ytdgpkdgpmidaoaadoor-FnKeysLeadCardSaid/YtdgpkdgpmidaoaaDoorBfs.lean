/-
  The plain search, with no program in sight: a list of states in the order in which they are found, the fewest moves to each, and how many ways lead there.
-/
namespace Go.Proofs.YtdgpkdgpmidaoaaDoor.Bfs
set_option linter.unusedSectionVars false
variable {α : Type} [DecidableEq α]

structure St (α : Type) where
  q : List α
  far : α → Option Nat
  ways : α → Int

def upd {β : Type} (f : α → β) (t : α) (v : β) : α → β := fun x => if x = t then v else f x

def d (st : St α) (u : α) : Nat := (st.far u).getD 0

def relax (add : Int → Int → Int) (u : α) (st : St α) (t : α) : St α :=
  let st1 : St α := if (st.far t).isNone then ⟨st.q ++ [t], upd st.far t (some (d st u + 1)), st.ways⟩ else st
  if st1.far t = some (d st1 u + 1) then ⟨st1.q, st1.far, upd st1.ways t (add (st1.ways t) (st1.ways u))⟩ else st1

def process (add : Int → Int → Int) (step : α → List α) (st : St α) (u : α) : St α := (step u).foldl (relax add u) st

def run (add : Int → Int → Int) (step : α → List α) : Nat → Nat → St α → St α
  | 0, _, st => st
  | k + 1, i, st => if h : i < st.q.length then run add step k (i + 1) (process add step st st.q[i]) else st

def init (s : α) : St α := ⟨[s], fun x => if x = s then some 0 else none, fun x => if x = s then 1 else 0⟩

inductive Path (step : α → List α) (s : α) : Nat → α → Prop
  | nil : Path step s 0 s
  | snoc {n : Nat} {b c : α} : Path step s n b → c ∈ step b → Path step s (n + 1) c

/-- What holds at the head of the outer loop's round i. `u`-free part: all but the processed vertices' edges. -/
structure Inv (step : α → List α) (s : α) (st : St α) (i : Nat) : Prop where
  nodup : st.q.Nodup
  le : i ≤ st.q.length
  pos : 0 < st.q.length
  head : st.q[0]? = some s
  iff : ∀ t, (st.far t).isSome = true ↔ t ∈ st.q
  zero : st.far s = some 0
  path : ∀ t n, st.far t = some n → Path step s n t
  mono : ∀ j k (hj : j < st.q.length) (hk : k < st.q.length), j ≤ k → d st st.q[j] ≤ d st st.q[k]
  near : ∀ (hi : i < st.q.length) (k : Nat) (hk : k < st.q.length), d st st.q[k] ≤ d st st.q[i] + 1
  done : ∀ j (hj : j < st.q.length), j < i → ∀ t ∈ step st.q[j], t ∈ st.q ∧ d st t ≤ d st st.q[j] + 1

/-- What holds inside the round of `u = q[i]`, behind a part `p` of its moves. -/
structure InvIn (step : α → List α) (s : α) (st : St α) (i : Nat) (u : α) (p : List α) : Prop where
  nodup : st.q.Nodup
  lt : i < st.q.length
  at_ : st.q[i]? = some u
  head : st.q[0]? = some s
  iff : ∀ t, (st.far t).isSome = true ↔ t ∈ st.q
  zero : st.far s = some 0
  path : ∀ t n, st.far t = some n → Path step s n t
  mono : ∀ j k (hj : j < st.q.length) (hk : k < st.q.length), j ≤ k → d st st.q[j] ≤ d st st.q[k]
  near : ∀ (k : Nat) (hk : k < st.q.length), d st st.q[k] ≤ d st u + 1
  done : ∀ j (hj : j < st.q.length), j < i → ∀ t ∈ step st.q[j], t ∈ st.q ∧ d st t ≤ d st st.q[j] + 1
  part : ∀ t ∈ p, t ∈ st.q ∧ d st t ≤ d st u + 1

theorem relax_q_far (add : Int → Int → Int) (u : α) (st : St α) (t : α) :
    (relax add u st t).q = (if (st.far t).isNone then st.q ++ [t] else st.q) ∧
    (relax add u st t).far = (if (st.far t).isNone then upd st.far t (some (d st u + 1)) else st.far) := by
  unfold relax
  by_cases h : (st.far t).isNone <;> simp only [h, if_true, if_false, Bool.false_eq_true] <;> split <;> exact ⟨rfl, rfl⟩

theorem d_upd_ne {st : St α} {t x : α} {v : Option Nat} {q : List α} {w : α → Int} (h : x ≠ t) : d ⟨q, upd st.far t v, w⟩ x = d st x := by
  simp [d, upd, h]

theorem InvIn.relaxed {step : α → List α} {s : α} {st : St α} {i : Nat} {u : α} {p : List α} (add : Int → Int → Int) {t : α}
    (I : InvIn step s st i u p) (ht : t ∈ step u) : InvIn step s (relax add u st t) i u (p ++ [t]) := by
  obtain ⟨hq, hf⟩ := relax_q_far add u st t
  have hu : u ∈ st.q := List.mem_of_getElem? I.at_
  have huf := (I.iff u).2 hu
  generalize relax add u st t = st' at hq hf
  have hd : ∀ x, x ≠ t ∨ (st.far t).isNone = false → d st' x = d st x := by
    intro x hx
    by_cases h : (st.far t).isNone
    · rw [if_pos h] at hf
      rcases hx with hx | hx
      · simp [d, hf, upd, hx]
      · rw [h] at hx; cases hx
    · rw [if_neg h] at hf
      simp [d, hf]
  by_cases h : (st.far t).isNone
  · have hnt : t ∉ st.q := fun hm => by have := (I.iff t).2 hm; rw [Option.isSome_iff_ne_none] at this; exact this (Option.isNone_iff_eq_none.1 h)
    rw [if_pos h] at hf hq
    have hut : u ≠ t := fun e => hnt (e ▸ hu)
    have hdu : d st' u = d st u := hd u (.inl hut)
    have hdt : d st' t = d st u + 1 := by simp [d, hf, upd]
    have hdq : ∀ x ∈ st.q, d st' x = d st x := fun x hx => hd x (.inl fun e => hnt (e ▸ hx))
    have hlen : st'.q.length = st.q.length + 1 := by rw [hq]; simp
    have hold : ∀ j (hj : j < st.q.length) (hj' : j < st'.q.length), st'.q[j] = st.q[j] := by
      intro j hj hj'; simp only [hq]; rw [List.getElem_append_left hj]
    have hnew : ∀ j (hj' : j < st'.q.length), ¬ j < st.q.length → st'.q[j] = t := by
      intro j hj' hj
      have : j = st.q.length := by omega
      subst this
      simp [hq]
    have hfs : st.far s ≠ none := by rw [I.zero]; simp
    have hts : t ≠ s := fun e => by rw [e, I.zero] at h; simp at h
    refine ⟨?_, ?_, ?_, ?_, ?_, ?_, ?_, ?_, ?_, ?_, ?_⟩
    · rw [hq]; rw [List.nodup_append]; exact ⟨I.nodup, by simp, by intro a ha b hb; simp at hb; subst hb; exact fun e => hnt (e ▸ ha)⟩
    · have := I.lt; omega
    · rw [hq, List.getElem?_append_left I.lt]; exact I.at_
    · rw [hq, List.getElem?_append_left (by have := I.lt; omega)]; exact I.head
    · intro x
      rw [hf, hq]
      by_cases hx : x = t
      · simp [upd, hx]
      · simp [upd, hx, I.iff x]
    · rw [hf]; simp [upd, Ne.symm hts, I.zero]
    · intro x n hx
      rw [hf] at hx
      by_cases he : x = t
      · subst he
        simp [upd] at hx
        subst hx
        obtain ⟨m, hm⟩ := Option.isSome_iff_exists.1 huf
        have : d st u = m := by simp [d, hm]
        rw [this]
        exact .snoc (I.path u m hm) ht
      · simp [upd, he] at hx; exact I.path x n hx
    · intro j k hj hk hjk
      by_cases hk' : k < st.q.length
      · have hj' : j < st.q.length := by omega
        rw [hold j hj' hj, hold k hk' hk, hdq _ (List.getElem_mem _), hdq _ (List.getElem_mem _)]
        exact I.mono j k hj' hk' hjk
      · rw [hnew k hk hk', hdt]
        by_cases hj' : j < st.q.length
        · rw [hold j hj' hj, hdq _ (List.getElem_mem _)]; exact I.near j hj'
        · rw [hnew j hj hj', hdt]; omega
    · intro k hk
      rw [hdu]
      by_cases hk' : k < st.q.length
      · rw [hold k hk' hk, hdq _ (List.getElem_mem _)]; exact I.near k hk'
      · rw [hnew k hk hk', hdt]; omega
    · intro j hj hji x hx
      have hj' : j < st.q.length := by have := I.lt; omega
      rw [hold j hj' hj] at hx ⊢
      obtain ⟨h1, h2⟩ := I.done j hj' hji x hx
      refine ⟨by rw [hq]; simp [h1], ?_⟩
      rw [hdq _ h1, hdq _ (List.getElem_mem _)]; exact h2
    · intro x hx
      rw [hdu]
      simp at hx
      rcases hx with hx | hx
      · obtain ⟨h1, h2⟩ := I.part x hx
        exact ⟨by rw [hq]; simp [h1], by rw [hdq _ h1]; exact h2⟩
      · subst hx; exact ⟨by rw [hq]; simp, by rw [hdt]; omega⟩
  · have hdall : ∀ x, d st' x = d st x := fun x => hd x (.inr (Bool.eq_false_iff.2 h))
    rw [if_neg h] at hf hq
    have htq : t ∈ st.q := (I.iff t).1 (Option.isSome_iff_ne_none.2 fun e => h (by rw [e]; rfl))
    obtain ⟨q', f', w'⟩ := st'
    simp only at hq hf
    subst hq hf
    refine ⟨I.nodup, I.lt, I.at_, I.head, I.iff, I.zero, I.path, ?_, ?_, ?_, ?_⟩
    · intro j k hj hk hjk; rw [hdall, hdall]; exact I.mono j k hj hk hjk
    · intro k hk; rw [hdall, hdall]; exact I.near k hk
    · intro j hj hji x hx; rw [hdall, hdall]; exact I.done j hj hji x hx
    · intro x hx
      rw [hdall, hdall]
      simp at hx
      rcases hx with hx | hx
      · exact I.part x hx
      · subst hx
        obtain ⟨k, hk, e⟩ := List.getElem_of_mem htq
        exact ⟨htq, by rw [← e]; exact I.near k hk⟩

theorem InvIn.foldl {step : α → List α} {s : α} {i : Nat} {u : α} (add : Int → Int → Int) (l : List α) : ∀ (st : St α) (p : List α),
    InvIn step s st i u p → (∀ t ∈ l, t ∈ step u) → InvIn step s (l.foldl (relax add u) st) i u (p ++ l) := by
  induction l with
  | nil => intro st p I _; simpa using I
  | cons t l ih =>
    intro st p I h
    have := ih _ _ (I.relaxed add (h t (by simp))) (fun x hx => h x (by simp [hx]))
    simpa using this

theorem Inv.start (step : α → List α) (s : α) : Inv step s (init s) 0 := by
  refine ⟨by simp [init], by simp [init], by simp [init], by simp [init], ?_, by simp [init], ?_, ?_, ?_, ?_⟩
  · intro t; by_cases h : t = s <;> simp [init, h]
  · intro t n h
    by_cases e : t = s
    · subst e; simp [init] at h; subst h; exact .nil
    · simp [init, e] at h
  · intro j k hj hk hjk; simp [init] at hj hk; simp [init, hj, hk]
  · intro hi k hk; simp [init] at hk; simp [init, hk]
  · intro j hj h; omega

theorem Inv.enter {step : α → List α} {s : α} {st : St α} {i : Nat} (I : Inv step s st i) (h : i < st.q.length) : InvIn step s st i st.q[i] [] :=
  ⟨I.nodup, h, List.getElem?_eq_getElem h, I.head, I.iff, I.zero, I.path, I.mono, I.near h, I.done, by simp⟩

theorem InvIn.leave {step : α → List α} {s : α} {st : St α} {i : Nat} {u : α} (I : InvIn step s st i u (step u)) : Inv step s st (i + 1) := by
  have hlt := I.lt
  have hu : st.q[i] = u := by have := I.at_; rw [List.getElem?_eq_getElem hlt] at this; exact Option.some.inj this
  refine ⟨I.nodup, by omega, by omega, I.head, I.iff, I.zero, I.path, I.mono, ?_, ?_⟩
  · intro hi k hk
    have h1 := I.near k hk
    have h2 := I.mono i (i + 1) hlt hi (by omega)
    rw [hu] at h2
    omega
  · intro j hj hji t ht
    by_cases h : j = i
    · subst h; rw [hu] at ht ⊢; exact I.part t ht
    · exact I.done j hj (by omega) t ht

theorem Inv.process {step : α → List α} {s : α} {st : St α} {i : Nat} (add : Int → Int → Int) (I : Inv step s st i) (h : i < st.q.length) :
    Inv step s (process add step st st.q[i]) (i + 1) := by
  have := (I.enter h).foldl add (step st.q[i]) st [] (fun t ht => ht)
  rw [List.nil_append] at this
  exact InvIn.leave this

/-- Behind the search: what the numbers mean. -/
structure Final (step : α → List α) (s : α) (st : St α) : Prop where
  nodup : st.q.Nodup
  iff : ∀ t, (st.far t).isSome = true ↔ t ∈ st.q
  path : ∀ t n, st.far t = some n → Path step s n t
  least : ∀ t n, Path step s n t → ∃ m, st.far t = some m ∧ m ≤ n

theorem Inv.final {step : α → List α} {s : α} {st : St α} (I : Inv step s st st.q.length) : Final step s st := by
  refine ⟨I.nodup, I.iff, I.path, ?_⟩
  intro t n h
  induction h with
  | nil => exact ⟨0, I.zero, Nat.le_refl _⟩
  | @snoc n b c _ hc ih =>
    obtain ⟨m, hm, hle⟩ := ih
    have hb : b ∈ st.q := (I.iff b).1 (by rw [hm]; rfl)
    obtain ⟨j, hj, e⟩ := List.getElem_of_mem hb
    obtain ⟨h1, h2⟩ := I.done j hj hj c (by rw [e]; exact hc)
    rw [e] at h2
    obtain ⟨k, hk⟩ := Option.isSome_iff_exists.1 ((I.iff c).2 h1)
    refine ⟨k, hk, ?_⟩
    have e1 : d st c = k := by simp [d, hk]
    have e2 : d st b = m := by simp [d, hm]
    omega

theorem relax_new {add : Int → Int → Int} {u t : α} {st : St α} (h : st.far t = none) (hu : u ≠ t) :
    relax add u st t = ⟨st.q ++ [t], upd st.far t (some (d st u + 1)), upd st.ways t (add (st.ways t) (st.ways u))⟩ := by
  have e1 : (st.far t).isNone = true := by rw [h]; rfl
  unfold relax
  simp only [e1, if_true]
  have e2 : d (⟨st.q ++ [t], upd st.far t (some (d st u + 1)), st.ways⟩ : St α) u = d st u := d_upd_ne hu
  rw [e2, if_pos (by simp [upd])]
theorem relax_same {add : Int → Int → Int} {u t : α} {st : St α} (h : st.far t = some (d st u + 1)) :
    relax add u st t = ⟨st.q, st.far, upd st.ways t (add (st.ways t) (st.ways u))⟩ := by
  have e1 : (st.far t).isNone = false := by rw [h]; rfl
  unfold relax
  simp only [e1, Bool.false_eq_true, if_false]
  rw [if_pos h]
theorem relax_not {add : Int → Int → Int} {u t : α} {st : St α} (h : st.far t ≠ none) (h2 : st.far t ≠ some (d st u + 1)) :
    relax add u st t = st := by
  have e1 : (st.far t).isNone = false := by
    cases e : st.far t with
    | none => exact absurd e h
    | some _ => rfl
  unfold relax
  simp only [e1, Bool.false_eq_true, if_false]
  rw [if_neg h2]

theorem nodup_bound : ∀ (N : Nat) (l : List Nat), l.Nodup → (∀ x ∈ l, x < N) → l.length ≤ N
  | 0, l, _, h => by
    cases l with
    | nil => simp
    | cons a l => exact absurd (h a (by simp)) (Nat.not_lt_zero a)
  | N + 1, l, hn, h => by
    by_cases hm : N ∈ l
    · have h1 := nodup_bound N (l.erase N) (hn.erase N) (fun x hx => by
        have h2 := (List.Nodup.mem_erase_iff hn).1 hx
        have h3 := h x h2.2
        have := h2.1
        omega)
      rw [List.length_erase_of_mem hm] at h1
      omega
    · have := nodup_bound N l hn (fun x hx => by
        have h3 := h x hx
        have : x ≠ N := fun e => hm (e ▸ hx)
        omega)
      omega

/-- The numbers are small, the queue's vertices are below a bound. -/
structure Good (N : Nat) (st : St Nat) : Prop where
  bnd : ∀ t n, st.far t = some n → n < st.q.length
  rng : ∀ x ∈ st.q, x < N
theorem Good.len {N : Nat} {st : St Nat} (G : Good N st) (hn : st.q.Nodup) : st.q.length ≤ N := nodup_bound N st.q hn G.rng
theorem Good.d {N : Nat} {st : St Nat} (G : Good N st) {u : Nat} (hu : (st.far u).isSome = true) : d st u < st.q.length := by
  obtain ⟨m, hm⟩ := Option.isSome_iff_exists.1 hu
  have := G.bnd u m hm
  simp [Bfs.d, hm]
  exact this
theorem Good.relaxed {N : Nat} {st : St Nat} (G : Good N st) (add : Int → Int → Int) {u t : Nat} (hu : (st.far u).isSome = true) (ht : t < N) : Good N (relax add u st t) := by
  have hd := G.d hu
  obtain ⟨hq, hf⟩ := relax_q_far add u st t
  constructor
  · intro x n hx
    rw [hf] at hx
    rw [hq]
    by_cases h : (st.far t).isNone = true
    · rw [if_pos h] at hx ⊢
      rw [List.length_append]
      simp only [List.length_cons, List.length_nil]
      by_cases e : x = t
      · simp only [upd, e, if_true, Option.some.injEq] at hx
        omega
      · simp only [upd, e, if_false] at hx
        have := G.bnd x n hx
        omega
    · rw [if_neg h] at hx ⊢
      exact G.bnd x n hx
  · intro x hx
    rw [hq] at hx
    split at hx
    · rw [List.mem_append] at hx
      rcases hx with hx | hx
      · exact G.rng x hx
      · simp at hx; omega
    · exact G.rng x hx
theorem Good.start (N s : Nat) (hs : s < N) : Good N (init s) := by
  constructor
  · intro t n h
    by_cases e : t = s
    · simp [init, e] at h; simp [init, ← h]
    · simp [init, e] at h
  · intro x hx
    simp [init] at hx
    omega
end Go.Proofs.YtdgpkdgpmidaoaaDoor.Bfs
