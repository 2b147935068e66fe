/-
  The plain search's ways: how many lists of fewest moves lead to each state, up to a power of two; as many as lead back. No program in sight.
-/
import Derived.Test.YtdgpkdgpmidaoaaDoorBfs
namespace Go.Proofs.YtdgpkdgpmidaoaaDoor.Bfs
set_option linter.unusedSectionVars false
variable {α : Type} [DecidableEq α]
def walks (step : α → List α) : Nat → α → List α
  | 0, s => [s]
  | n + 1, s => (walks step n s).flatMap step
theorem walks_cons (step : α → List α) : ∀ (n : Nat) (s : α), walks step (n + 1) s = (step s).flatMap (walks step n)
  | 0, s => by
    show [s].flatMap step = (step s).flatMap (fun x => [x])
    simp
  | n + 1, s => by
    show (walks step (n + 1) s).flatMap step = _
    rw [walks_cons step n s, List.flatMap_assoc]
    rfl
theorem count_flatMap (l : List α) (f : α → List α) (t : α) : (l.flatMap f).count t = (l.map fun v => (f v).count t).sum := by
  induction l with
  | nil => rfl
  | cons a l ih => simp only [List.flatMap_cons, List.count_append, List.map_cons, List.sum_cons, ih]
theorem sum_add (l : List α) (f g : α → Nat) : (l.map fun v => f v + g v).sum = (l.map f).sum + (l.map g).sum := by
  induction l with
  | nil => rfl
  | cons a l ih => simp only [List.map_cons, List.sum_cons, ih]; omega
theorem sum_one (l : List α) (a : α) : (l.map fun v => if v = a then 1 else 0).sum = l.count a := by
  induction l with
  | nil => rfl
  | cons b l ih =>
    simp only [List.map_cons, List.sum_cons, ih, List.count_cons]
    by_cases h : b = a
    · simp [h]; omega
    · simp [h]
theorem count_swap (l m : List α) : (l.map fun v => m.count v).sum = (m.map fun v => l.count v).sum := by
  induction m with
  | nil =>
    simp only [List.count_nil, List.map_nil, List.sum_nil]
    induction l with
    | nil => rfl
    | cons a l ih => simp only [List.map_cons, List.sum_cons, ih]; rfl
  | cons a m ih =>
    have h1 : (l.map fun v => (a :: m).count v).sum = (l.map fun v => m.count v + (if v = a then 1 else 0)).sum := by
      congr 1
      apply List.map_congr_left
      intro v _
      rw [List.count_cons]
      by_cases h : a = v
      · simp [h]
      · have h' : ¬ v = a := fun e => h e.symm
        simp [h, h']
    rw [h1, sum_add, ih, sum_one, List.map_cons, List.sum_cons]
    omega
theorem walks_mem {step : α → List α} {P : α → Prop} (hP : ∀ a b, P a → b ∈ step a → P b) : ∀ (n : Nat) (s : α), P s → ∀ x ∈ walks step n s, P x
  | 0, s, hs, x, hx => by
    simp [walks] at hx
    rw [hx]; exact hs
  | n + 1, s, hs, x, hx => by
    simp only [walks, List.mem_flatMap] at hx
    obtain ⟨y, hy, hx⟩ := hx
    exact hP y x (walks_mem hP n s hs y hy) hx
theorem walks_sym {step : α → List α} {P : α → Prop} (hP : ∀ a b, P a → b ∈ step a → P b) (hs : ∀ a b, P a → P b → (step a).count b = (step b).count a) :
    ∀ (n : Nat) (a b : α), P a → P b → (walks step n a).count b = (walks step n b).count a
  | 0, a, b, _, _ => by
    show [a].count b = [b].count a
    by_cases h : a = b
    · rw [h]
    · have h' : ¬ b = a := fun e => h e.symm
      simp [h, h']
  | n + 1, a, b, ha, hb => by
    have e1 : (walks step (n + 1) a).count b = ((walks step n a).map fun v => (step v).count b).sum := count_flatMap _ _ _
    have e2 : ((walks step n a).map fun v => (step v).count b).sum = ((walks step n a).map fun v => (step b).count v).sum := by
      congr 1
      apply List.map_congr_left
      intro v hv
      exact hs v b (walks_mem hP n a ha v hv) hb
    have e3 : ((step b).map fun v => (walks step n a).count v).sum = ((step b).map fun v => (walks step n v).count a).sum := by
      congr 1
      apply List.map_congr_left
      intro v hv
      exact walks_sym hP hs n a v ha (hP b v hb hv)
    rw [e1, e2, count_swap, e3, walks_cons, count_flatMap]
theorem walks_path {step : α → List α} {s : α} : ∀ (n : Nat) (x : α), x ∈ walks step n s → Path step s n x
  | 0, x, h => by
    simp [walks] at h
    rw [h]; exact .nil
  | n + 1, x, h => by
    simp only [walks, List.mem_flatMap] at h
    obtain ⟨y, hy, h⟩ := h
    exact .snoc (walks_path n y hy) h
def part (step : α → List α) (st : St α) (l : List α) (t : α) : Int :=
  (l.map fun v => if d st v + 1 = d st t then st.ways v * ((step v).count t : Int) else 0).sum
theorem part_append (step : α → List α) (st : St α) (l m : List α) (t : α) : part step st (l ++ m) t = part step st l t + part step st m t := by
  simp [part]
theorem part_congr (step : α → List α) (st st' : St α) (l : List α) (t : α) (h : ∀ v ∈ l, (if d st v + 1 = d st t then st.ways v * ((step v).count t : Int) else 0) = (if d st' v + 1 = d st' t then st'.ways v * ((step v).count t : Int) else 0)) : part step st l t = part step st' l t := by
  unfold part
  congr 1
  exact List.map_congr_left h
def base (s t : α) : Int := if t = s then 1 else 0
structure WInv (step : α → List α) (M : Int) (s : α) (st : St α) (i : Nat) : Prop where
  out : ∀ t, t ∉ st.q → st.ways t = 0
  sum : ∀ t ∈ st.q, (st.ways t - (base s t + part step st (st.q.take i) t)) % M = 0
structure WInvIn (step : α → List α) (M : Int) (s : α) (st : St α) (i : Nat) (u : α) (p : List α) : Prop where
  out : ∀ t, t ∉ st.q → st.ways t = 0
  sum : ∀ t ∈ st.q, (st.ways t - (base s t + part step st (st.q.take i) t + (if d st u + 1 = d st t then st.ways u * (p.count t : Int) else 0))) % M = 0
theorem take_lt {l : List α} {i : Nat} {v : α} (h : v ∈ l.take i) : ∃ (j : Nat) (hj : j < l.length), j < i ∧ l[j] = v := by
  obtain ⟨j, hj, e⟩ := List.getElem_of_mem h
  rw [List.length_take] at hj
  refine ⟨j, by omega, by omega, ?_⟩
  rw [← e, List.getElem_take]
theorem WInvIn.relaxed {step : α → List α} {M : Int} {s : α} {st : St α} {i : Nat} {u : α} {p : List α} (add : Int → Int → Int) (hadd : ∀ a b, (add a b - (a + b)) % M = 0) {t : α}
    (W : WInvIn step M s st i u p) (I : InvIn step s st i u p) (ht : t ∈ step u) : WInvIn step M s (relax add u st t) i u (p ++ [t]) := by
  have hu : u ∈ st.q := List.mem_of_getElem? I.at_
  have huf := (I.iff u).2 hu
  have hlt := I.lt
  have hqi : st.q[i] = u := by have := I.at_; rw [List.getElem?_eq_getElem hlt] at this; exact Option.some.inj this
  have hbefore : ∀ v ∈ st.q.take i, v ∈ st.q ∧ d st v ≤ d st u ∧ ∀ x ∈ step v, x ∈ st.q := by
    intro v hv
    obtain ⟨j, hj, hji, e⟩ := take_lt hv
    refine ⟨e ▸ List.getElem_mem hj, ?_, ?_⟩
    · have := I.mono j i hj hlt (by omega)
      rw [e, hqi] at this
      exact this
    · intro x hx
      exact (I.done j hj hji x (by rw [e]; exact hx)).1
  cases hf : st.far t with
  | none =>
    have htq : t ∉ st.q := fun hm => by have := (I.iff t).2 hm; rw [hf] at this; cases this
    have hut : u ≠ t := fun e => htq (e ▸ hu)
    have hts : t ≠ s := fun e => by rw [e, I.zero] at hf; cases hf
    rw [relax_new hf hut]
    have hd : ∀ x, x ∈ st.q → d (⟨st.q ++ [t], upd st.far t (some (d st u + 1)), upd st.ways t (add (st.ways t) (st.ways u))⟩ : St α) x = d st x := fun x hx => d_upd_ne (fun e => htq (e ▸ hx))
    have hdt : d (⟨st.q ++ [t], upd st.far t (some (d st u + 1)), upd st.ways t (add (st.ways t) (st.ways u))⟩ : St α) t = d st u + 1 := by simp [d, upd]
    generalize hst : (⟨st.q ++ [t], upd st.far t (some (d st u + 1)), upd st.ways t (add (st.ways t) (st.ways u))⟩ : St α) = st' at hd hdt
    have hw : ∀ x, x ≠ t → st'.ways x = st.ways x := by intro x hx; rw [← hst]; simp [upd, hx]
    have hwt : st'.ways t = add (st.ways t) (st.ways u) := by rw [← hst]; simp [upd]
    have hq : st'.q = st.q ++ [t] := by rw [← hst]
    have htk : st'.q.take i = st.q.take i := by rw [hq, List.take_append_of_le_length (by omega)]
    constructor
    · intro x hx
      rw [hq] at hx
      simp only [List.mem_append, List.mem_singleton, not_or] at hx
      rw [hw x hx.2]
      exact W.out x hx.1
    · intro x hx
      rw [htk]
      by_cases hxt : x = t
      · subst hxt
        have hp0 : part step st' (st.q.take i) x = 0 := by
          have : part step st' (st.q.take i) x = ((st.q.take i).map fun _ => (0 : Int)).sum := by
            unfold part
            congr 1
            apply List.map_congr_left
            intro v hv
            have : (step v).count x = 0 := List.count_eq_zero.2 (fun hm => htq ((hbefore v hv).2.2 x hm))
            rw [this]
            simp
          rw [this]
          generalize st.q.take i = l
          induction l with
          | nil => rfl
          | cons a l ih => rw [List.map_cons, List.sum_cons, ih]; rfl
        have hpc : p.count x = 0 := List.count_eq_zero.2 (fun hm => htq (I.part x hm).1)
        rw [hp0, hwt, W.out x htq, hd u hu, hdt, if_pos rfl, hw u hut, List.count_append, hpc]
        have hb : base s x = 0 := by simp [base, hts]
        rw [hb]
        have := hadd 0 (st.ways u)
        simp only [List.count_cons, List.count_nil, beq_self_eq_true, if_true]
        rw [show add 0 (st.ways u) - (0 + 0 + st.ways u * ((0 + (0 + 1) : Nat) : Int)) = add 0 (st.ways u) - (0 + st.ways u) by simp]
        exact this
      · have hxq : x ∈ st.q := by
          rw [hq] at hx
          simp only [List.mem_append, List.mem_singleton] at hx
          rcases hx with hx | hx
          · exact hx
          · exact absurd hx hxt
        have hpp : part step st' (st.q.take i) x = part step st (st.q.take i) x := by
          apply part_congr
          intro v hv
          have hvq := (hbefore v hv).1
          rw [hd v hvq, hd x hxq, hw v (fun e => htq (e ▸ hvq))]
        have hc : (p ++ [t]).count x = p.count x := by
          rw [List.count_append]
          have : [t].count x = 0 := List.count_eq_zero.2 (by simpa using hxt)
          omega
        rw [hpp, hw x hxt, hd u hu, hd x hxq, hw u hut, hc]
        exact W.sum x hxq
  | some v =>
    have htq : t ∈ st.q := (I.iff t).1 (by rw [hf]; rfl)
    have hdv : d st t = v := by simp [d, hf]
    by_cases hvd : v = d st u + 1
    · rw [relax_same (by rw [hf, hvd])]
      have hut : u ≠ t := fun e => by rw [← e] at hdv; omega
      have hd : ∀ x, d (⟨st.q, st.far, upd st.ways t (add (st.ways t) (st.ways u))⟩ : St α) x = d st x := fun x => rfl
      generalize hst : (⟨st.q, st.far, upd st.ways t (add (st.ways t) (st.ways u))⟩ : St α) = st' at hd
      have hw : ∀ x, x ≠ t → st'.ways x = st.ways x := by intro x hx; rw [← hst]; simp [upd, hx]
      have hwt : st'.ways t = add (st.ways t) (st.ways u) := by rw [← hst]; simp [upd]
      have hq : st'.q = st.q := by rw [← hst]
      have hpp : ∀ x, part step st' (st.q.take i) x = part step st (st.q.take i) x := by
        intro x
        apply part_congr
        intro v' hv'
        rw [hd v', hd x, hw v' (fun e => by have := (hbefore v' hv').2.1; rw [e] at this; omega)]
      constructor
      · intro x hx
        rw [hq] at hx
        rw [hw x (fun e => hx (e ▸ htq))]
        exact W.out x hx
      · intro x hx
        rw [hq] at hx ⊢
        rw [hpp x, hd u, hd x, hw u hut]
        by_cases hxt : x = t
        · subst hxt
          have h1 := W.sum x htq
          rw [hwt, if_pos (by omega)]
          rw [if_pos (by omega)] at h1
          have h2 := hadd (st.ways x) (st.ways u)
          have hc : ((p ++ [x]).count x : Int) = (p.count x : Int) + 1 := by rw [List.count_append]; simp
          rw [hc]
          have e : add (st.ways x) (st.ways u) - (base s x + part step st (st.q.take i) x + st.ways u * ((p.count x : Int) + 1)) = (add (st.ways x) (st.ways u) - (st.ways x + st.ways u)) + (st.ways x - (base s x + part step st (st.q.take i) x + st.ways u * (p.count x : Int))) := by
            rw [Int.mul_add, Int.mul_one]
            omega
          rw [e, Int.add_emod, h1, h2]
          simp
        · have hc : (p ++ [t]).count x = p.count x := by
            rw [List.count_append]
            have : [t].count x = 0 := List.count_eq_zero.2 (by simpa using hxt)
            omega
          rw [hw x hxt, hc]
          exact W.sum x hx
    · rw [relax_not (by rw [hf]; simp) (by rw [hf]; simpa using hvd)]
      constructor
      · exact W.out
      · intro x hx
        have h1 := W.sum x hx
        by_cases hxt : x = t
        · subst hxt
          rw [if_neg (by omega)] at h1 ⊢
          exact h1
        · have hc : (p ++ [t]).count x = p.count x := by
            rw [List.count_append]
            have : [t].count x = 0 := List.count_eq_zero.2 (by simpa using hxt)
            omega
          rw [hc]
          exact h1
theorem WInvIn.foldl {step : α → List α} {M : Int} {s : α} {i : Nat} {u : α} (add : Int → Int → Int) (hadd : ∀ a b, (add a b - (a + b)) % M = 0) (l : List α) : ∀ (st : St α) (p : List α),
    InvIn step s st i u p → WInvIn step M s st i u p → (∀ t ∈ l, t ∈ step u) → WInvIn step M s (l.foldl (relax add u) st) i u (p ++ l) := by
  induction l with
  | nil => intro st p _ W _; simpa using W
  | cons t l ih =>
    intro st p I W h
    have := ih _ _ (I.relaxed add (h t (by simp))) (W.relaxed add hadd I (h t (by simp))) (fun x hx => h x (by simp [hx]))
    simpa using this
theorem WInv.start (step : α → List α) (M : Int) (s : α) : WInv step M s (init s) 0 := by
  constructor
  · intro t h
    simp [init] at h
    simp [init, h]
  · intro t h
    simp [init] at h
    subst h
    simp [init, base, part]
theorem WInv.process {step : α → List α} {M : Int} {s : α} {st : St α} {i : Nat} (add : Int → Int → Int) (hadd : ∀ a b, (add a b - (a + b)) % M = 0) (W : WInv step M s st i) (I : Inv step s st i) (h : i < st.q.length) :
    WInv step M s (process add step st st.q[i]) (i + 1) := by
  have W0 : WInvIn step M s st i st.q[i] [] := ⟨W.out, fun t ht => by
    have := W.sum t ht
    simp only [List.count_nil]
    rw [show (if d st st.q[i] + 1 = d st t then st.ways st.q[i] * ((0 : Nat) : Int) else 0) = 0 by split <;> simp, Int.add_zero]
    exact this⟩
  have W1 := WInvIn.foldl add hadd (step st.q[i]) st [] (I.enter h) W0 (fun t ht => ht)
  have I1 := (I.enter h).foldl add (step st.q[i]) st [] (fun t ht => ht)
  rw [List.nil_append] at W1 I1
  show WInv step M s ((step st.q[i]).foldl (relax add st.q[i]) st) (i + 1)
  generalize hu : st.q[i] = u at W1 I1
  generalize (step u).foldl (relax add u) st = st' at W1 I1
  refine ⟨W1.out, fun t ht => ?_⟩
  have := W1.sum t ht
  have hlt := I1.lt
  have hqi : st'.q[i] = u := by have := I1.at_; rw [List.getElem?_eq_getElem hlt] at this; exact Option.some.inj this
  have e : part step st' (st'.q.take (i + 1)) t = part step st' (st'.q.take i) t + (if d st' u + 1 = d st' t then st'.ways u * ((step u).count t : Int) else 0) := by
    rw [List.take_succ_eq_append_getElem hlt, part_append, hqi]
    simp [part]
  rw [e, ← Int.add_assoc]
  exact this
theorem mod_sum (M : Int) (l : List α) (f g : α → Int) (h : ∀ v ∈ l, (f v - g v) % M = 0) : ((l.map f).sum - (l.map g).sum) % M = 0 := by
  induction l with
  | nil => simp
  | cons a l ih =>
    simp only [List.map_cons, List.sum_cons]
    have h1 := h a (by simp)
    have h2 := ih (fun v hv => h v (by simp [hv]))
    rw [show f a + (l.map f).sum - (g a + (l.map g).sum) = (f a - g a) + ((l.map f).sum - (l.map g).sum) by omega, Int.add_emod, h1, h2]
    simp
theorem sum_by_count (q : List α) (hq : q.Nodup) (f : α → Int) : ∀ (l : List α), (∀ v ∈ l, v ∈ q ∨ f v = 0) → (l.map f).sum = (q.map fun v => (l.count v : Int) * f v).sum := by
  intro l
  induction l with
  | nil =>
    intro _
    simp only [List.map_nil, List.sum_nil, List.count_nil]
    clear hq
    induction q with
    | nil => rfl
    | cons a q ih => rw [List.map_cons, List.sum_cons, ← ih (fun v hv => by cases hv)]; simp
  | cons a l ih =>
    intro h
    have h1 := ih (fun v hv => h v (by simp [hv]))
    have key : ∀ (q : List α), q.Nodup → (q.map fun v => ((a :: l).count v : Int) * f v).sum = (q.map fun v => (l.count v : Int) * f v).sum + (if a ∈ q then f a else 0) := by
      intro q hq
      induction q with
      | nil => simp
      | cons b q ihq =>
        obtain ⟨hb, hq'⟩ := List.nodup_cons.1 hq
        have := ihq hq'
        simp only [List.map_cons, List.sum_cons]
        rw [this]
        by_cases e : a = b
        · subst e
          rw [List.count_cons_self, if_neg hb, if_pos (by simp)]
          rw [show ((l.count a + 1 : Nat) : Int) * f a = (l.count a : Int) * f a + f a by rw [Int.natCast_add, Int.add_mul]; simp]
          omega
        · rw [List.count_cons_of_ne (by simpa using e)]
          have : (a ∈ b :: q) = (a ∈ q) := by simp [e]
          simp only [this]
          omega
    rw [List.map_cons, List.sum_cons, h1, key q hq]
    rcases h a (by simp) with h | h
    · rw [if_pos h]; omega
    · rw [h]; split <;> omega
theorem WInv.final {step : α → List α} {M : Int} {s : α} {st : St α} (I : Inv step s st st.q.length) (W : WInv step M s st st.q.length) :
    ∀ (n : Nat) (t : α), st.far t = some n → (st.ways t - ((walks step n s).count t : Int)) % M = 0 := by
  have F := I.final
  intro n
  induction n with
  | zero =>
    intro t ht
    have hts : t = s := by
      have := F.path t 0 ht
      cases this
      rfl
    subst hts
    have h1 := W.sum t ((I.iff t).1 (by rw [ht]; rfl))
    have hp : part step st (st.q.take st.q.length) t = 0 := by
      unfold part
      have hd : d st t = 0 := by simp [d, ht]
      rw [hd]
      generalize st.q.take st.q.length = l
      induction l with
      | nil => rfl
      | cons a l ih => rw [List.map_cons, List.sum_cons, ih]; simp
    rw [hp] at h1
    simpa [base, walks] using h1
  | succ n ih =>
    intro t ht
    have htq : t ∈ st.q := (I.iff t).1 (by rw [ht]; rfl)
    have h1 := W.sum t htq
    have hd : d st t = n + 1 := by simp [d, ht]
    have hb : base s t = 0 := by
      unfold base
      rw [if_neg]
      intro e
      rw [e, I.zero] at ht
      cases ht
    rw [List.take_length, hb, Int.zero_add] at h1
    have e1 : ((walks step (n + 1) s).count t : Int) = ((walks step n s).map fun v => ((step v).count t : Int)).sum := by
      show (((walks step n s).flatMap step).count t : Int) = _
      rw [count_flatMap]
      generalize walks step n s = l
      induction l with
      | nil => rfl
      | cons a l ih => simp only [List.map_cons, List.sum_cons, Int.natCast_add, ih]
    have e2 : ((walks step n s).map fun v => ((step v).count t : Int)).sum = (st.q.map fun v => ((walks step n s).count v : Int) * ((step v).count t : Int)).sum := by
      apply sum_by_count _ I.nodup
      intro v hv
      left
      obtain ⟨m, hm, _⟩ := F.least v n (walks_path n v hv)
      exact (I.iff v).1 (by rw [hm]; rfl)
    rw [e1, e2]
    have e3 : (part step st st.q t - (st.q.map fun v => ((walks step n s).count v : Int) * ((step v).count t : Int)).sum) % M = 0 := by
      unfold part
      apply mod_sum
      intro v hv
      by_cases hc : t ∈ step v
      · obtain ⟨m, hm⟩ := Option.isSome_iff_exists.1 ((I.iff v).2 hv)
        have hdv : d st v = m := by simp [d, hm]
        obtain ⟨k, hk, hkl⟩ := F.least t (m + 1) (.snoc (F.path v m hm) hc)
        rw [ht] at hk
        obtain rfl := Option.some.inj hk
        by_cases hmn : m = n
        · rw [hdv, hd, if_pos (by omega)]
          have := ih v (by rw [hm, hmn])
          rw [← Int.sub_mul, Int.mul_emod, this]
          simp
        · rw [hdv, hd, if_neg (by omega)]
          have : (walks step n s).count v = 0 := by
            apply List.count_eq_zero.2
            intro hw
            obtain ⟨m2, hm2, hle⟩ := F.least v n (walks_path n v hw)
            rw [hm] at hm2
            obtain rfl := Option.some.inj hm2
            omega
          rw [this]
          simp
      · have : (step v).count t = 0 := List.count_eq_zero.2 hc
        rw [this]
        simp
    rw [show st.ways t - (st.q.map fun v => ((walks step n s).count v : Int) * ((step v).count t : Int)).sum = (st.ways t - part step st st.q t) + (part step st st.q t - (st.q.map fun v => ((walks step n s).count v : Int) * ((step v).count t : Int)).sum) by omega, Int.add_emod, h1, e3]
    simp
end Go.Proofs.YtdgpkdgpmidaoaaDoor.Bfs
