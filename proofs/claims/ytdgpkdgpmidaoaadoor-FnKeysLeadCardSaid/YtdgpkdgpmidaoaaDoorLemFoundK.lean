/-
  The program's search by a function value, in plain words: the list, the fewest moves and the ways of the plain search.
-/
import Derived.Test.YtdgpkdgpmidaoaaDoorLemRingKK
import Derived.Test.YtdgpkdgpmidaoaaDoorBfs
import Derived.Test.YtdgpkdgpmidaoaaDoorMapS
namespace Go.Proofs.YtdgpkdgpmidaoaaDoor.Lem
open Go.RowKit Go.Proofs.YtdgpkdgpmidaoaaDoor.PK Go.Proofs.YtdgpkdgpmidaoaaDoorW.PrintWords Go.Proofs.YtdgpkdgpmidaoaaDoorW.PrintLast Go.Proofs.YtdgpkdgpmidaoaaDoorW.PrintMore Go.Proofs.YtdgpkdgpmidaoaaDoor.Bfs
set_option linter.unusedVariables false
set_option linter.unusedSimpArgs false

abbrev Stt := List UInt8
/-- At most so many ways are held. -/
def addC (a b : Int) : Int := impl_searched.cap (wrap64 (a + b))
def fB (st : St Stt) : ByteArray → Option Int := fun b => (st.far b.data.toList).map (fun n => (n : Int))
def gB (st : St Stt) : ByteArray → Option Int := fun b => if (st.far b.data.toList).isSome = true then some (st.ways b.data.toList) else none
theorem toL_eq {b : ByteArray} {s : Stt} : b.data.toList = s ↔ b = tx s := ⟨fun h => by rw [← h, tx_self], fun h => by rw [h, tx_data]⟩
theorem tx_inj {s t : Stt} (h : tx s = tx t) : s = t := by rw [← tx_data s, h, tx_data]
theorem fB_tx (st : St Stt) (s : Stt) : fB st (tx s) = (st.far s).map (fun n => (n : Int)) := by unfold fB; rw [tx_data]
theorem gB_tx (st : St Stt) (s : Stt) : gB st (tx s) = if (st.far s).isSome = true then some (st.ways s) else none := by unfold gB; rw [tx_data]
theorem fB_new (st : St Stt) (t : Stt) (n : Nat) (q : List Stt) (w : Stt → Int) : fB ⟨q, Bfs.upd st.far t (some n), w⟩ = MapS.upd (fB st) (tx t) (n : Int) := by
  funext b
  simp only [fB, Bfs.upd, MapS.upd, toL_eq]
  split <;> rfl
theorem fB_same (st : St Stt) (q : List Stt) (w : Stt → Int) : fB ⟨q, st.far, w⟩ = fB st := rfl
theorem gB_new (st : St Stt) (t : Stt) (n : Nat) (q : List Stt) (v : Int) : gB ⟨q, Bfs.upd st.far t (some n), Bfs.upd st.ways t v⟩ = MapS.upd (gB st) (tx t) v := by
  funext b
  simp only [gB, Bfs.upd, MapS.upd, toL_eq]
  by_cases h : b = tx t
  · rw [if_pos h, if_pos h, if_pos h]; rfl
  · rw [if_neg h, if_neg h, if_neg h]
theorem gB_same (st : St Stt) (t : Stt) (v : Int) (h : (st.far t).isSome = true) (q : List Stt) : gB ⟨q, st.far, Bfs.upd st.ways t v⟩ = MapS.upd (gB st) (tx t) v := by
  funext b
  simp only [gB, Bfs.upd, MapS.upd, toL_eq]
  by_cases e : b = tx t
  · rw [if_pos e, if_pos e, if_pos]
    rw [e, tx_data]; exact h
  · rw [if_neg e, if_neg e]
/-- What a search goes over: states of bounded size and number, told apart by their numbers. -/
structure Setup (step : Stt → List Stt) (ok : Stt → Prop) (num : Stt → Nat) (N : Nat) : Prop where
  next : ∀ s, ok s → ∀ t ∈ step s, ok t
  lt : ∀ s, ok s → num s < N
  inj : ∀ s t, ok s → ok t → num s = num t → s = t
  small : ∀ s, ok s → s.length ≤ 1000
  few : ∀ s, ok s → (step s).length ≤ 1000
  nle : N ≤ 1000000
structure GoodS (ok : Stt → Prop) (st : St Stt) : Prop where
  bnd : ∀ t n, st.far t = some n → n < st.q.length
  ok : ∀ x ∈ st.q, ok x
  out : ∀ t, st.far t = none → st.ways t = 0
theorem GoodS.len {step : Stt → List Stt} {ok : Stt → Prop} {num : Stt → Nat} {N : Nat} (S : Setup step ok num N) {st : St Stt} (G : GoodS ok st) (hn : st.q.Nodup) : st.q.length ≤ N := by
  have h := nodup_bound N (st.q.map num) ?_ ?_
  · rwa [List.length_map] at h
  · unfold List.Nodup
    rw [List.pairwise_map]
    exact List.Pairwise.imp_of_mem (fun ha hb hne e => hne (S.inj _ _ (G.ok _ ha) (G.ok _ hb) e)) hn
  · intro x hx
    obtain ⟨y, hy, rfl⟩ := List.mem_map.1 hx
    exact S.lt y (G.ok y hy)
theorem GoodS.d {ok : Stt → Prop} {st : St Stt} (G : GoodS ok st) {u : Stt} (hu : (st.far u).isSome = true) : Bfs.d st u < st.q.length := by
  obtain ⟨m, hm⟩ := Option.isSome_iff_exists.1 hu
  have := G.bnd u m hm
  simp [Bfs.d, hm]
  exact this
theorem GoodS.relaxed {ok : Stt → Prop} {st : St Stt} (G : GoodS ok st) (add : Int → Int → Int) {u t : Stt} (hu : (st.far u).isSome = true) (ht : ok t) : GoodS ok (relax add u st t) := by
  have hd := G.d hu
  obtain ⟨hq, hf⟩ := relax_q_far add u st t
  constructor
  · intro x n hx
    rw [hf] at hx
    rw [hq]
    by_cases h : (st.far t).isNone = true
    · rw [if_pos h] at hx ⊢
      rw [List.length_append]
      simp only [List.length_cons, List.length_nil]
      by_cases e : x = t
      · simp only [Bfs.upd, e, if_true, Option.some.injEq] at hx
        omega
      · simp only [Bfs.upd, e, if_false] at hx
        have := G.bnd x n hx
        omega
    · rw [if_neg h] at hx ⊢
      exact G.bnd x n hx
  · intro x hx
    rw [hq] at hx
    split at hx
    · rw [List.mem_append] at hx
      rcases hx with hx | hx
      · exact G.ok x hx
      · simp at hx; exact hx ▸ ht
    · exact G.ok x hx
  · intro x hx
    cases hft : st.far t with
    | none =>
      have hut : u ≠ t := fun e => by rw [e, hft] at hu; cases hu
      rw [relax_new hft hut] at hx ⊢
      have hxt : x ≠ t := fun e => by simp [Bfs.upd, e] at hx
      simp only [Bfs.upd, if_neg hxt] at hx ⊢
      exact G.out x hx
    | some v =>
      by_cases hv : v = Bfs.d st u + 1
      · rw [relax_same (by rw [hft, hv])] at hx ⊢
        have hxt : x ≠ t := fun e => by rw [e] at hx; rw [hft] at hx; cases hx
        simp only [Bfs.upd, if_neg hxt]
        exact G.out x hx
      · rw [relax_not (by rw [hft]; simp) (by rw [hft]; simpa using hv)] at hx ⊢
        exact G.out x hx
theorem GoodS.foldl {ok : Stt → Prop} {step : Stt → List Stt} {s : Stt} {i : Nat} {u : Stt} (add : Int → Int → Int) (l : List Stt) : ∀ (st : St Stt) (p : List Stt),
    InvIn step s st i u p → GoodS ok st → (∀ t ∈ l, t ∈ step u) → (∀ t ∈ step u, ok t) → GoodS ok (l.foldl (relax add u) st) := by
  induction l with
  | nil => intro st p I G _ _; exact G
  | cons t l ih =>
    intro st p I G h hN
    have ht := h t (by simp)
    have huf := (I.iff u).2 (List.mem_of_getElem? I.at_)
    exact ih _ _ (I.relaxed add ht) (G.relaxed add huf (hN t ht)) (fun x hx => h x (by simp [hx])) hN
theorem GoodS.start {ok : Stt → Prop} {s : Stt} (hs : ok s) : GoodS ok (init s) := by
  refine ⟨fun t n h => ?_, fun x hx => ?_, fun t h => ?_⟩
  · by_cases e : t = s
    · simp [init, e] at h; simp [init, ← h]
    · simp [init, e] at h
  · simp [init] at hx
    exact hx ▸ hs
  · by_cases e : t = s
    · simp [init, e] at h
    · simp [init, e]
/-- The search, whole. -/
theorem run_good {step : Stt → List Stt} {ok : Stt → Prop} {num : Stt → Nat} {N : Nat} (S : Setup step ok num N) (add : Int → Int → Int) (s : Stt) : ∀ m i (st : St Stt), Inv step s st i → GoodS ok st → N ≤ i + m →
    Inv step s (run add step m i st) (run add step m i st).q.length ∧ GoodS ok (run add step m i st) := by
  intro m
  induction m with
  | zero =>
    intro i st I G hm
    have h1 := G.len S I.nodup
    have h2 := I.le
    have e : st.q.length = i := by omega
    exact ⟨by show Inv step s st st.q.length; rw [e]; exact I, G⟩
  | succ m ih =>
    intro i st I G hm
    unfold run
    by_cases hi : i < st.q.length
    · rw [dif_pos hi]
      exact ih (i + 1) _ (I.process add hi) (GoodS.foldl add (step st.q[i]) st [] (I.enter hi) G (fun t ht => ht) (S.next _ (G.ok _ (List.getElem_mem hi)))) (by omega)
    · rw [dif_neg hi]
      have h2 := I.le
      have e : st.q.length = i := by omega
      exact ⟨by rw [e]; exact I, G⟩
def found (step : Stt → List Stt) (N : Nat) (s : Stt) : St Stt := run addC step N 0 (init s)
theorem found_good {step : Stt → List Stt} {ok : Stt → Prop} {num : Stt → Nat} {N : Nat} (S : Setup step ok num N) {s : Stt} (hs : ok s) : Inv step s (found step N s) (found step N s).q.length ∧ GoodS ok (found step N s) :=
  run_good S addC s N 0 (init s) (Inv.start _ _) (GoodS.start hs) (by omega)
theorem rdM {l : List Stt} {i : Nat} (h : i < l.length) : rdOf ByteArray.empty (l.map tx) (i : Int) = tx l[i] := by
  rw [rdS_get (by rw [List.length_map]; exact h), List.getElem_map]
theorem sz_le {n : Nat} (h : n ≤ 1000) : n ≤ maxLen := Nat.le_trans h (by decide)
theorem ar_j {j d n : Nat} (h : j + (d + 1) = n) : j + 1 + d = n := by omega
theorem ar_1 {c d n : Nat} (h : c + 2 * (d + 1) ≤ n) : c + 1 + 2 * d ≤ n := by omega
theorem ar_2 {c d n : Nat} (h : c + 2 * (d + 1) ≤ n) : c + 1 + 1 + 2 * d ≤ n := by omega
theorem ar_3 {c d n : Nat} (h : n ≤ c + 1 + 2 * d) : n ≤ c + 2 * (d + 1) := by omega
theorem ar_4 {c d n : Nat} (h : n ≤ c + 1 + 1 + 2 * d) : n ≤ c + 2 * (d + 1) := by omega
theorem sr_l1 {step : Stt → List Stt} {ok : Stt → Prop} {num : Stt → Nat} {N : Nat} (S : Setup step ok num N) (moves : Nat → ByteArray → Option (List ByteArray)) (s0 : Stt) (i : Nat) (u : Stt) : ∀ (d j : Nat) (st : St Stt) (p : List Stt) (c : Nat),
    j + d = (step u).length → InvIn step s0 st i u p → GoodS ok st → c + 2 * d ≤ 4000000000000 →
    ∃ c', c' ≤ c + 2 * d ∧ ∀ R, Ev (fun k => impl_searched.l0 moves k ((((step u).drop j).foldl (relax addC u) st).q.map tx) (fB (((step u).drop j).foldl (relax addC u) st)) (gB (((step u).drop j).foldl (relax addC u) st)) c' ((i + 1 : Nat) : Int)) R →
      Ev (fun k => impl_searched.l1 moves k (tx u) ((step u).map tx) (st.q.map tx) (fB st) (gB st) c (i : Int) (j : Int)) R := by
  intro d
  induction d with
  | zero =>
    intro j st p c hj I G hc
    have hil : i < 1000001 := by have h1 := G.len S I.nodup; have h2 := I.lt; have h3 := S.nle; omega
    refine ⟨c, Nat.le_refl _, fun R h => ?_⟩
    rw [List.drop_eq_nil_of_le (by omega), List.foldl_nil] at h
    refine Ev.step (fun k => ?_) h
    simp only [impl_searched.l1]
    rw [List.length_map, if_neg (show ¬ (j : Int) < ((step u).length : Int) from fun h => by have := Int.ofNat_lt.1 h; omega), succ64 (by omega)]
  | succ d ih =>
    intro j st p c hj I G hc
    have hjl : j < (step u).length := by omega
    obtain ⟨t, ht⟩ : ∃ t, (step u)[j] = t := ⟨_, rfl⟩
    have hdr : (step u).drop j = t :: (step u).drop (j + 1) := by rw [List.drop_eq_getElem_cons hjl, ht]
    have htm : t ∈ step u := ht ▸ List.getElem_mem hjl
    have huq : u ∈ st.q := List.mem_of_getElem? I.at_
    have hou := G.ok u huq
    have hot := S.next u hou t htm
    have huf := (I.iff u).2 huq
    have hlen := G.len S I.nodup
    have hql : st.q.length < 4398046511104 := by have := S.nle; omega
    have hi62 : st.q.length < 4611686018427387904 := by omega
    have hj62 : j < 4611686018427387904 := by have := S.few u hou; omega
    have hdu := G.d huf
    obtain ⟨m, hm⟩ := Option.isSome_iff_exists.1 huf
    have hdm : Bfs.d st u = m := by simp [Bfs.d, hm]
    have hrd : rdOf ByteArray.empty ((step u).map tx) (j : Int) = tx t := by rw [rdM hjl, ht]
    have hJ : (j : Int) < (((step u).map tx).length : Int) := by rw [List.length_map]; exact Int.ofNat_lt.2 hjl
    have hcond : (tx u).size ≤ maxLen ∧ (tx t).size ≤ maxLen ∧ c < 4398046511104 ∧ (st.q.map tx).length < 4398046511104 :=
      ⟨by rw [tx_size]; exact sz_le (S.small u hou), by rw [tx_size]; exact sz_le (S.small t hot), Nat.lt_of_le_of_lt (Nat.le_trans (Nat.le_add_right c (2 * (d + 1))) hc) (by decide), by rw [List.length_map]; exact hql⟩
    have hfu : (fB st (tx u)).getD 0 = ((Bfs.d st u : Nat) : Int) := by rw [fB_tx, hm, hdm]; rfl
    have hgu : (gB st (tx u)).getD 0 = st.ways u := by rw [gB_tx, if_pos huf]; rfl
    have hsd : wrap64 (((Bfs.d st u : Nat) : Int) + 1) = ((Bfs.d st u + 1 : Nat) : Int) := succ64 (by omega)
    have hsj : wrap64 ((j : Int) + 1) = ((j + 1 : Nat) : Int) := succ64 hj62
    have I2 := I.relaxed addC htm
    have G2 := G.relaxed addC huf hot
    have hgt : (gB st (tx t)).getD 0 = st.ways t := by
      rw [gB_tx]
      by_cases h : (st.far t).isSome = true
      · rw [if_pos h]; rfl
      · rw [if_neg h]
        rw [G.out t (by cases e : st.far t with
          | none => rfl
          | some v => rw [e] at h; exact absurd rfl h)]
        rfl
    rw [hdr]
    simp only [List.foldl_cons]
    cases hft : st.far t with
    | none =>
      have hut : u ≠ t := fun e => by rw [e, hft] at huf; cases huf
      rw [relax_new hft hut] at I2 G2 ⊢
      obtain ⟨c', hc', K⟩ := ih (j + 1) _ _ (c + 1 + 1) (ar_j hj) I2 G2 (ar_2 hc)
      refine ⟨c', ar_4 hc', fun R h => ?_⟩
      refine Ev.step (fun k => ?_) (K R h)
      simp only [impl_searched.l1]
      rw [if_pos hJ, if_pos (Int.natCast_nonneg _), hrd, if_pos hcond, if_neg (show ¬ (fB st (tx t)).isSome = true by rw [fB_tx, hft]; simp), hfu, hsd]
      have hne : tx u ≠ tx t := fun e => hut (tx_inj e)
      have hup : (MapS.upd (fB st) (tx t) ((Bfs.d st u + 1 : Nat) : Int) (tx u)).getD 0 = ((Bfs.d st u : Nat) : Int) := by unfold MapS.upd; rw [if_neg hne]; exact hfu
      rw [hup, hsd, if_pos rfl, hgt, hgu, hsj, fB_new, gB_new, List.map_append]
      rfl
    | some v =>
      have hsome : (fB st (tx t)).isSome = true := by rw [fB_tx, hft]; rfl
      have hft2 : (fB st (tx t)).getD 0 = (v : Int) := by rw [fB_tx, hft]; rfl
      by_cases hvd : v = Bfs.d st u + 1
      · rw [relax_same (by rw [hft, hvd])] at I2 G2 ⊢
        obtain ⟨c', hc', K⟩ := ih (j + 1) _ _ (c + 1) (ar_j hj) I2 G2 (ar_1 hc)
        refine ⟨c', ar_3 hc', fun R h => ?_⟩
        refine Ev.step (fun k => ?_) (K R h)
        simp only [impl_searched.l1]
        rw [if_pos hJ, if_pos (Int.natCast_nonneg _), hrd, if_pos hcond, if_pos hsome, hft2, hfu, hsd, if_pos (by rw [hvd]), hgt, hgu, hsj, gB_same st t _ (by rw [hft]; rfl), fB_same]
        rfl
      · rw [relax_not (by rw [hft]; simp) (by rw [hft]; simpa using hvd)] at I2 G2 ⊢
        have hvn : ¬ ((v : Int) = ((Bfs.d st u + 1 : Nat) : Int)) := fun h => hvd (Int.ofNat.inj h)
        obtain ⟨c', hc', K⟩ := ih (j + 1) _ _ (c + 1) (ar_j hj) I2 G2 (ar_1 hc)
        refine ⟨c', ar_3 hc', fun R h => ?_⟩
        refine Ev.step (fun k => ?_) (K R h)
        simp only [impl_searched.l1]
        rw [if_pos hJ, if_pos (Int.natCast_nonneg _), hrd, if_pos hcond, if_pos hsome, hft2, hfu, hsd, if_neg hvn, hsj]
theorem sr_l0 {step : Stt → List Stt} {ok : Stt → Prop} {num : Stt → Nat} {N : Nat} (S : Setup step ok num N) (moves : Nat → ByteArray → Option (List ByteArray)) (hm : ∀ s, ok s → Ev (fun k => moves k (tx s)) ((step s).map tx)) (s0 : Stt) :
    ∀ (m i : Nat) (st : St Stt) (c : Nat), Inv step s0 st i → GoodS ok st → N ≤ i + m → c + 2000 * m ≤ 4000000000000 →
    Ev (fun k => impl_searched.l0 moves k (st.q.map tx) (fB st) (gB st) c (i : Int)) ((run addC step m i st).q.map tx, fB (run addC step m i st), gB (run addC step m i st)) := by
  intro m
  induction m with
  | zero =>
    intro i st c I G hN hc
    have h1 := G.len S I.nodup
    refine Ev.step (f := fun _ => some (st.q.map tx, fB st, gB st)) (fun k => ?_) (Ev.now _)
    simp only [impl_searched.l0]
    rw [List.length_map, if_neg (fun h => by have := Int.ofNat_lt.1 h; omega)]
  | succ m ih =>
    intro i st c I G hN hc
    by_cases hi : i < st.q.length
    · obtain ⟨u, hu⟩ : ∃ u, st.q[i] = u := ⟨_, rfl⟩
      have hin := I.enter hi
      rw [hu] at hin
      have hou : ok u := hu ▸ G.ok _ (List.getElem_mem hi)
      have I2 := I.process addC hi
      rw [hu] at I2
      have G2 : GoodS ok (process addC step st u) := GoodS.foldl addC (step u) st [] hin G (fun t ht => ht) (S.next u hou)
      have hfew := S.few u hou
      obtain ⟨c', hc', K⟩ := sr_l1 S moves s0 i u (step u).length 0 st [] c (Nat.zero_add _) hin G (by omega)
      have e := ih (i + 1) _ c' I2 G2 (by omega) (by omega)
      rw [List.drop_zero] at K
      have e2 := K _ e
      have hrun : run addC step (m + 1) i st = run addC step m (i + 1) (process addC step st u) := by
        conv => lhs; unfold run
        rw [dif_pos hi, hu]
      rw [hrun]
      refine ev_num (hm u hou) e2 (fun k hk => ?_)
      simp only [impl_searched.l0]
      rw [if_pos (show (i : Int) < ((st.q.map tx).length : Int) by rw [List.length_map]; exact Int.ofNat_lt.2 hi), if_pos (Int.natCast_nonneg _), rdM hi, hu, hk, obind]
      rfl
    · have hrun : run addC step (m + 1) i st = st := by
        conv => lhs; unfold run
        rw [dif_neg hi]
      rw [hrun]
      refine Ev.step (f := fun _ => some (st.q.map tx, fB st, gB st)) (fun k => ?_) (Ev.now _)
      simp only [impl_searched.l0]
      rw [List.length_map, if_neg (fun h => hi (Int.ofNat_lt.1 h))]
/-- What the program's search finds. -/
theorem searched_run {step : Stt → List Stt} {ok : Stt → Prop} {num : Stt → Nat} {N : Nat} (S : Setup step ok num N) (moves : Nat → ByteArray → Option (List ByteArray)) (hm : ∀ s, ok s → Ev (fun k => moves k (tx s)) ((step s).map tx)) (s : Stt) (hs : ok s) :
    Ev (fun k => impl_searched.f moves k (tx s)) ((found step N s).q.map tx, fB (found step N s), gB (found step N s)) := by
  have h := sr_l0 S moves hm s N 0 (init s) 1 (Inv.start _ _) (GoodS.start hs) (by omega) (by have := S.nle; omega)
  unfold impl_searched.f
  have e1 : fB (init s) = MapS.upd (fun _ => none) (tx s) 0 := by
    funext b
    simp only [fB, init, MapS.upd, toL_eq]
    split <;> rfl
  have e2 : gB (init s) = MapS.upd (fun _ => none) (tx s) 1 := by
    funext b
    simp only [gB, init, MapS.upd, toL_eq]
    by_cases e : b = tx s
    · simp [e]
    · simp [e]
  rw [e1, e2] at h
  exact h
end Go.Proofs.YtdgpkdgpmidaoaaDoor.Lem
