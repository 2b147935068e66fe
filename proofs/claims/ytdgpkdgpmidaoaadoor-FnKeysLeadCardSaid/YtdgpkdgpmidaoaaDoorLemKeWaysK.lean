/-
  Keys on few rings: searches over few states count their ways outright, whether capped or wrapped; as many first ways back as there, at least one where there is a way, none where there is none.
-/
import Derived.Test.YtdgpkdgpmidaoaaDoorLemKeFarWK
import Derived.Test.YtdgpkdgpmidaoaaDoorWays
namespace Go.Proofs.YtdgpkdgpmidaoaaDoor.Bfs
set_option linter.unusedSectionVars false
variable {α : Type} [DecidableEq α]

def plus (a b : Int) : Int := a + b
/-- A sum that is right as long as it is small. -/
def Small (add : Int → Int → Int) : Prop := ∀ a b, 0 ≤ a → 0 ≤ b → a + b ≤ 1099511627776 → add a b = a + b
theorem relax_small {add : Int → Int → Int} (ha : Small add) {u : α} {st : St α} {t : α} {M : Int} (h0 : ∀ x, 0 ≤ st.ways x) (ht : st.ways t ≤ M) (hu : st.ways u ≤ M) (hM : 2 * M ≤ 1099511627776) :
    relax add u st t = relax plus u st t ∧ (∀ x, 0 ≤ (relax plus u st t).ways x) ∧ (∀ x, x ≠ t → (relax plus u st t).ways x = st.ways x) ∧ (relax plus u st t).ways t ≤ 2 * M ∧ (relax plus u st t).ways u ≤ M := by
  have e : add (st.ways t) (st.ways u) = st.ways t + st.ways u := ha _ _ (h0 t) (h0 u) (by omega)
  have hp : 0 ≤ M := Int.le_trans (h0 t) ht
  have hut := h0 u
  have htt := h0 t
  have key : ∀ (st1 : St α), st1.ways = st.ways → (st1.far u = some (d st1 u) ∨ st1.far u = none) →
      (if st1.far t = some (d st1 u + 1) then (⟨st1.q, st1.far, upd st1.ways t (add (st1.ways t) (st1.ways u))⟩ : St α) else st1) = (if st1.far t = some (d st1 u + 1) then ⟨st1.q, st1.far, upd st1.ways t (plus (st1.ways t) (st1.ways u))⟩ else st1) ∧
      (∀ x, 0 ≤ (if st1.far t = some (d st1 u + 1) then (⟨st1.q, st1.far, upd st1.ways t (plus (st1.ways t) (st1.ways u))⟩ : St α) else st1).ways x) ∧
      (∀ x, x ≠ t → (if st1.far t = some (d st1 u + 1) then (⟨st1.q, st1.far, upd st1.ways t (plus (st1.ways t) (st1.ways u))⟩ : St α) else st1).ways x = st.ways x) ∧
      (if st1.far t = some (d st1 u + 1) then (⟨st1.q, st1.far, upd st1.ways t (plus (st1.ways t) (st1.ways u))⟩ : St α) else st1).ways t ≤ 2 * M ∧
      (if st1.far t = some (d st1 u + 1) then (⟨st1.q, st1.far, upd st1.ways t (plus (st1.ways t) (st1.ways u))⟩ : St α) else st1).ways u ≤ M := by
    intro st1 hw hfu
    by_cases c : st1.far t = some (d st1 u + 1)
    · simp only [if_pos c, hw]
      have hne : u ≠ t := by
        intro e2
        rw [← e2] at c
        rcases hfu with h | h
        · rw [h] at c
          have := Option.some.inj c
          omega
        · rw [h] at c
          cases c
      refine ⟨by rw [e]; rfl, fun x => ?_, fun x hx => ?_, ?_, ?_⟩
      · show 0 ≤ (if x = t then st.ways t + st.ways u else st.ways x)
        split
        · omega
        · exact h0 x
      · show (if x = t then st.ways t + st.ways u else st.ways x) = _
        rw [if_neg hx]
      · show (if t = t then st.ways t + st.ways u else st.ways t) ≤ _
        rw [if_pos rfl]
        omega
      · show (if u = t then st.ways t + st.ways u else st.ways u) ≤ _
        rw [if_neg hne]
        exact hu
    · simp only [if_neg c, hw]
      exact ⟨trivial, h0, fun x _ => trivial, by omega, hu⟩
  have hd : ∀ st1 : St α, st1.far u = some (d st1 u) ∨ st1.far u = none := by
    intro st1
    unfold d
    cases st1.far u with
    | none => exact .inr rfl
    | some n => exact .inl rfl
  unfold relax
  by_cases hn : (st.far t).isNone = true
  · simp only [if_pos hn]
    exact key ⟨st.q ++ [t], upd st.far t (some (d st u + 1)), st.ways⟩ rfl (hd _)
  · simp only [if_neg hn]
    exact key st rfl (hd _)
theorem fold_small {add : Int → Int → Int} (ha : Small add) {u : α} {M : Int} (hM : 2 * M ≤ 1099511627776) : ∀ (l : List α) (st : St α), l.Nodup → (∀ x, 0 ≤ st.ways x) → (∀ t ∈ l, st.ways t ≤ M) → (∀ x, st.ways x ≤ 2 * M) → st.ways u ≤ M →
    l.foldl (relax add u) st = l.foldl (relax plus u) st ∧ (∀ x, 0 ≤ (l.foldl (relax plus u) st).ways x) ∧ (∀ x, (l.foldl (relax plus u) st).ways x ≤ 2 * M)
  | [], st, _, h0, _, h2, _ => ⟨rfl, h0, h2⟩
  | t :: l, st, hn, h0, hl, h2, hu => by
    obtain ⟨e1, e2, e3, e4, e5⟩ := relax_small ha h0 (hl t (List.mem_cons_self)) hu hM
    rw [List.nodup_cons] at hn
    rw [List.foldl_cons, List.foldl_cons, e1]
    refine fold_small ha hM l _ hn.2 e2 (fun x hx => ?_) (fun x => ?_) e5
    · rw [e3 x (fun e => hn.1 (e ▸ hx))]
      exact hl x (List.mem_cons_of_mem _ hx)
    · by_cases e : x = t
      · rw [e]; exact e4
      · rw [e3 x e]; exact h2 x
theorem pow2_le {i n : Nat} (h : i ≤ n) : (2 : Int) ^ i ≤ 2 ^ n := by
  have := Nat.pow_le_pow_right (show 0 < 2 by decide) h
  exact_mod_cast this
theorem fold_q (add : Int → Int → Int) (u : α) : ∀ (l : List α) (st : St α), ∀ x ∈ (l.foldl (relax add u) st).q, x ∈ st.q ∨ x ∈ l
  | [], st, x, hx => .inl hx
  | t :: l, st, x, hx => by
    rcases fold_q add u l _ x hx with h | h
    · rw [(relax_q_far add u st t).1] at h
      split at h
      · rcases List.mem_append.1 h with h | h
        · exact .inl h
        · exact .inr (by rw [List.mem_singleton.1 h]; exact List.mem_cons_self)
      · exact .inl h
    · exact .inr (List.mem_cons_of_mem _ h)
theorem run_small {add : Int → Int → Int} (ha : Small add) {step : α → List α} {P : α → Prop} (hs : ∀ u, P u → (step u).Nodup) (hP : ∀ u t, P u → t ∈ step u → P t) : ∀ (k i : Nat) (st : St α), i + k ≤ 39 → (∀ x ∈ st.q, P x) → (∀ x, 0 ≤ st.ways x) → (∀ x, st.ways x ≤ 2 ^ i) →
    run add step k i st = run plus step k i st ∧ (∀ x, 0 ≤ (run plus step k i st).ways x) ∧ (∀ x, (run plus step k i st).ways x ≤ 2 ^ 39)
  | 0, i, st, hi, hq, h0, h2 => ⟨rfl, h0, fun x => Int.le_trans (h2 x) (pow2_le (by omega))⟩
  | k + 1, i, st, hi, hq, h0, h2 => by
    unfold run
    by_cases h : i < st.q.length
    · rw [dif_pos h, dif_pos h]
      have hp : (2 : Int) ^ (i + 1) = 2 * 2 ^ i := by rw [Int.pow_succ]; omega
      have hb : 2 * (2 : Int) ^ i ≤ 1099511627776 := by
        rw [← hp]
        exact Int.le_trans (pow2_le (show i + 1 ≤ 40 by omega)) (by decide)
      have h9 : (0 : Int) ≤ 2 ^ i := Int.le_trans (h0 st.q[i]) (h2 st.q[i])
      have hPu := hq st.q[i] (List.getElem_mem h)
      obtain ⟨e1, e2, e3⟩ := fold_small ha hb (step st.q[i]) st (hs _ hPu) h0 (fun t _ => h2 t) (fun x => Int.le_trans (h2 x) (by omega)) (h2 st.q[i])
      have e1 : process add step st st.q[i] = process plus step st st.q[i] := e1
      rw [e1]
      refine run_small ha hs hP k (i + 1) _ (by omega) (fun x hx => ?_) e2 (fun x => by rw [hp]; exact e3 x)
      rcases fold_q plus st.q[i] (step st.q[i]) st x hx with g | g
      · exact hq x g
      · exact hP _ x hPu g
    · rw [dif_neg h, dif_neg h]
      exact ⟨rfl, h0, fun x => Int.le_trans (h2 x) (pow2_le (by omega))⟩
end Go.Proofs.YtdgpkdgpmidaoaaDoor.Bfs
namespace Go.Proofs.YtdgpkdgpmidaoaaDoor.Lem
open Go.RowKit Go.Proofs.YtdgpkdgpmidaoaaDoor.PK Go.Proofs.YtdgpkdgpmidaoaaDoorW.PrintWords Go.Proofs.YtdgpkdgpmidaoaaDoorW.PrintLast Go.Proofs.YtdgpkdgpmidaoaaDoorW.PrintMore Go.Proofs.YtdgpkdgpmidaoaaDoor.Ring Go.Proofs.YtdgpkdgpmidaoaaDoor.Bfs
set_option linter.unusedVariables false
set_option linter.unusedSimpArgs false

/-- How often a state is in a list. -/
def cntS (l : List Stt) (t : Stt) : Nat := @List.count Stt instBEqOfDecidableEq t l
theorem plus_mod (M : Int) (a b : Int) : (plus a b - (a + b)) % M = 0 := by unfold plus; simp
theorem run_ways {step : Stt → List Stt} {ok : Stt → Prop} {num : Stt → Nat} {N : Nat} (S : Setup step ok num N) (s : Stt) : ∀ m i (st : St Stt), Inv step s st i → WInv step 0 s st i → GoodS ok st → N ≤ i + m →
    WInv step 0 s (run plus step m i st) (run plus step m i st).q.length := by
  intro m
  induction m with
  | zero =>
    intro i st I W G hm
    have h1 := G.len S I.nodup
    have h2 := I.le
    have e : st.q.length = i := by omega
    show WInv step 0 s st st.q.length
    rw [e]
    exact W
  | succ m ih =>
    intro i st I W G hm
    unfold run
    by_cases hi : i < st.q.length
    · rw [dif_pos hi]
      exact ih (i + 1) _ (I.process plus hi) (W.process plus (plus_mod 0) I hi) (GoodS.foldl plus (step st.q[i]) st [] (I.enter hi) G (fun t ht => ht) (S.next _ (G.ok _ (List.getElem_mem hi)))) (by omega)
    · rw [dif_neg hi]
      have h2 := I.le
      have e : st.q.length = i := by omega
      rw [e]
      exact W
theorem cap_small : Small addC := by
  intro a b ha hb hab
  unfold addC impl_searched.cap
  rw [w64 (by omega) (by omega)]
  split <;> omega
theorem wrap_small : Small (fun a b => wrap64 (a + b)) := by
  intro a b ha hb hab
  exact w64 (by omega) (by omega)
/-- The ways of a search over few states: counted outright, whether capped or wrapped. -/
theorem few_ways {step : Stt → List Stt} {ok : Stt → Prop} {num : Stt → Nat} {N : Nat} (S : Setup step ok num N) (hN : N ≤ 39) (hnd : ∀ u, ok u → (step u).Nodup) {s : Stt} (hs : ok s) {add : Int → Int → Int} (ha : Small add) :
    run add step N 0 (init s) = run plus step N 0 (init s) ∧ (∀ t n, (run plus step N 0 (init s)).far t = some n → (run plus step N 0 (init s)).ways t = (cntS (walks step n s) t : Int)) ∧
      (∀ t, 0 ≤ (run plus step N 0 (init s)).ways t) ∧ (∀ t, (run plus step N 0 (init s)).ways t ≤ 2 ^ 39) := by
  have h0 : ∀ x, 0 ≤ (init s).ways x := fun x => by
    show 0 ≤ (if x = s then (1 : Int) else 0)
    split <;> omega
  have h1 : ∀ x, (init s).ways x ≤ 2 ^ 0 := fun x => by
    show (if x = s then (1 : Int) else 0) ≤ 1
    split <;> omega
  obtain ⟨e1, e2, e3⟩ := run_small ha (P := ok) hnd (fun u t hu ht => S.next u hu t ht) N 0 (init s) (by omega) (fun x hx => by
    simp [init] at hx
    exact hx ▸ hs) h0 h1
  obtain ⟨I, G⟩ := run_good S plus s N 0 (init s) (Inv.start _ _) (GoodS.start hs) (by omega)
  have W := run_ways S s N 0 (init s) (Inv.start _ _) (WInv.start _ _ _) (GoodS.start hs) (by omega)
  refine ⟨e1, fun t n ht => ?_, e2, e3⟩
  have h := WInv.final I W n t ht
  rw [Int.emod_zero] at h
  unfold cntS
  omega
end Go.Proofs.YtdgpkdgpmidaoaaDoor.Lem
namespace Go.Proofs.YtdgpkdgpmidaoaaDoor.Bfs
variable {α : Type}
theorem path_walks {step : α → List α} {s t : α} {n : Nat} (p : Path step s n t) : t ∈ walks step n s := by
  induction p with
  | nil => exact List.mem_singleton.2 rfl
  | snoc _ hc ih => exact List.mem_flatMap.2 ⟨_, ih, hc⟩
end Go.Proofs.YtdgpkdgpmidaoaaDoor.Bfs
namespace Go.Proofs.YtdgpkdgpmidaoaaDoor.Lem
open Go.RowKit Go.Proofs.YtdgpkdgpmidaoaaDoor.PK Go.Proofs.YtdgpkdgpmidaoaaDoorW.PrintWords Go.Proofs.YtdgpkdgpmidaoaaDoorW.PrintLast Go.Proofs.YtdgpkdgpmidaoaaDoorW.PrintMore Go.Proofs.YtdgpkdgpmidaoaaDoor.Ring Go.Proofs.YtdgpkdgpmidaoaaDoor.Bfs
set_option linter.unusedVariables false
set_option linter.unusedSimpArgs false

theorem flipC_neK (c : UInt8) (h : okc c = true) : flipC c ≠ c := by rcases okc_cases h with rfl | rfl <;> decide
theorem flipAt_injK {n : Nat} {s : Stt} (hs : okN n s) {i j : Nat} (hi : i < n) (e : flipAt s i = flipAt s j) : i = j := by
  by_cases c : i = j
  · exact c
  · exfalso
    have hi' : i < s.length := by rw [hs.1]; exact hi
    have h1 := flipAt_get s i i
    have h2 := flipAt_get s j i
    rw [if_pos rfl] at h1
    rw [if_neg (fun g => c g.symm)] at h2
    rw [e, h2, List.getElem?_eq_getElem hi', Option.map_some] at h1
    exact flipC_neK _ (all_get.1 hs.2 i _ (List.getElem?_eq_getElem hi')) (Option.some.inj h1).symm
theorem mvK_nodup (ks : List Stt) (s : Stt) (n : Nat) : (mvK ks s n).Nodup := List.Pairwise.filter _ List.nodup_range
theorem stepK_nodup {ks : List Stt} {s : Stt} (hs : okN ks.length s) : (stepK ks s).Nodup := by
  unfold stepK List.Nodup
  rw [List.pairwise_map]
  refine List.Pairwise.imp_of_mem (fun {i j} hi hj hne e => hne ?_) (mvK_nodup ks s ks.length)
  exact flipAt_injK hs (mvK_lt hi).1 e
theorem stepK_count {ks : List Stt} (hk : keysOk ks = true) {a b : Stt} (ha : okN ks.length a) (hb : okN ks.length b) : cntS (stepK ks a) b = cntS (stepK ks b) a := by
  unfold cntS
  rw [@List.Nodup.count Stt instBEqOfDecidableEq inferInstance _ _ (stepK_nodup ha), @List.Nodup.count Stt instBEqOfDecidableEq inferInstance _ _ (stepK_nodup hb)]
  by_cases h : b ∈ stepK ks a
  · rw [if_pos h, if_pos (stepK_back hk ha h)]
  · rw [if_neg h, if_neg (fun g => h (stepK_back hk hb g))]
theorem pow5 {n : Nat} (h : n ≤ 5) : 2 ^ n ≤ 39 := Nat.le_trans (Nat.pow_le_pow_right (by decide) h) (by decide)
theorem foundX_K {ks : List Stt} (hk : keysOk ks = true) (h5 : ks.length ≤ 5) {s : Stt} (hs : okN ks.length s) : foundX ks s = foundK ks s := by
  have h1 := (few_ways (setupK hk) (pow5 h5) (fun u hu => stepK_nodup hu) hs cap_small).1
  have h2 := (few_ways (setupK hk) (pow5 h5) (fun u hu => stepK_nodup hu) hs wrap_small).1
  show run addX (stepK ks) (2 ^ ks.length) 0 (init s) = run addC (stepK ks) (2 ^ ks.length) 0 (init s)
  rw [h1]
  exact h2
/-- The ways: counted outright. -/
theorem waysK {ks : List Stt} (hk : keysOk ks = true) (h5 : ks.length ≤ 5) {s t : Stt} (hs : okN ks.length s) : (∀ n, (foundK ks s).far t = some n → (foundK ks s).ways t = (cntS (walks (stepK ks) n s) t : Int)) ∧ ((foundK ks s).far t = none → (foundK ks s).ways t = 0) := by
  obtain ⟨h1, h2, h3, h4⟩ := few_ways (setupK hk) (pow5 h5) (fun u hu => stepK_nodup hu) hs cap_small
  have h1 : foundK ks s = run plus (stepK ks) (2 ^ ks.length) 0 (init s) := h1
  refine ⟨fun n h => ?_, (found_good (setupK hk) hs).2.out t⟩
  rw [h1] at h ⊢
  exact h2 t n h
theorem waysK_sym {ks : List Stt} (hk : keysOk ks = true) (h5 : ks.length ≤ 5) {a b : Stt} (ha : okN ks.length a) (hb : okN ks.length b) : (foundK ks b).ways a = (foundK ks a).ways b := by
  obtain ⟨p1, p2⟩ := waysK hk h5 (t := a) hb
  obtain ⟨q1, q2⟩ := waysK hk h5 (t := b) ha
  have hsym := found_sym hk ha hb
  cases h : (foundK ks b).far a with
  | none => rw [p2 h, q2 (by rw [← hsym]; exact h)]
  | some n =>
    rw [p1 n h, q1 n (by rw [← hsym]; exact h)]
    have e : cntS (walks (stepK ks) n b) a = cntS (walks (stepK ks) n a) b := walks_sym (P := okN ks.length) (fun x y hx hxy => (setupK hk).next x hx y hxy) (fun x y hx hy => stepK_count hk hx hy) n b a hb ha
    rw [e]
theorem waysK_pos {ks : List Stt} (hk : keysOk ks = true) (h5 : ks.length ≤ 5) {s t : Stt} (hs : okN ks.length s) : 0 < (foundK ks s).ways t ↔ (foundK ks s).far t ≠ none := by
  obtain ⟨p1, p2⟩ := waysK hk h5 (t := t) hs
  cases h : (foundK ks s).far t with
  | none => rw [p2 h]; simp
  | some n =>
    rw [p1 n h]
    have hI : Inv (stepK ks) s (foundK ks s) (foundK ks s).q.length := (found_good (setupK hk) hs).1
    have hc : 0 < cntS (walks (stepK ks) n s) t := (@List.count_pos_iff Stt instBEqOfDecidableEq inferInstance _ _).2 (path_walks (hI.path t n h))
    exact ⟨fun _ => by simp, fun _ => by omega⟩
end Go.Proofs.YtdgpkdgpmidaoaaDoor.Lem
