/-
  How many lists of fewest moves lead from one state to another, as both searches reckon it: as many as lead back.
-/
import Derived.Test.YtppbohghongfmaaDoorLemSymN
import Derived.Test.YtppbohghongfmaaDoorWays
namespace Go.Proofs.YtppbohghongfmaaDoor.Ring
theorem flipC_ne (c : UInt8) (h : okc c = true) : flipC c ≠ c := by rcases okc_cases h with rfl | rfl <;> decide
def sees (k : Int) (p : Nat) : Bool := if k = -1 then p == 0 || p == 1 else p == k.toNat
theorem mkP_get (l : List UInt8) (k : Int) (p : Nat) : (mkP l k)[p]? = if sees k p = true then l[p]?.map flipC else l[p]? := by
  unfold mkP sees
  by_cases h : k = -1
  · rw [if_pos h, if_pos h, flipAt_get, flipAt_get]
    by_cases h0 : 0 = p
    · subst h0; simp
    · by_cases h1 : 1 = p
      · subst h1; simp
      · rw [if_neg h1, if_neg h0, if_neg]
        simp
        omega
  · rw [if_neg h, if_neg h, flipAt_get]
    by_cases e : k.toNat = p
    · rw [if_pos e, if_pos (by simp [e])]
    · rw [if_neg e, if_neg (by simp; omega)]
theorem sees_inj {l : List UInt8} (ho : l.all okc = true) {k k' : Int} (h : mkP l k = mkP l k') (p : Nat) (hp : p < l.length) : sees k p = sees k' p := by
  have h1 : (mkP l k)[p]? = (mkP l k')[p]? := by rw [h]
  rw [mkP_get, mkP_get, List.getElem?_eq_getElem hp] at h1
  have hc : okc l[p] = true := List.all_eq_true.1 ho _ (List.getElem_mem _)
  have hn := flipC_ne l[p] hc
  cases ha : sees k p <;> cases hb : sees k' p <;> rw [ha, hb] at h1 <;> simp at h1
  · exact absurd h1.symm hn
  · exact absurd h1 hn
theorem mkP_inj {l : List UInt8} (h2 : 2 ≤ l.length) (ho : l.all okc = true) {k k' : Int} (hk : k ∈ mvP l) (hk' : k' ∈ mvP l) (h : mkP l k = mkP l k') : k = k' := by
  rcases mem_mvP.1 hk with ⟨rfl, _⟩ | ⟨j, rfl, hj, _⟩ <;> rcases mem_mvP.1 hk' with ⟨rfl, _⟩ | ⟨j', rfl, hj', _⟩
  · rfl
  · have a := sees_inj ho h 0 (by omega)
    have b := sees_inj ho h 1 (by omega)
    simp [sees] at a b
    omega
  · have a := sees_inj ho h 0 (by omega)
    have b := sees_inj ho h 1 (by omega)
    simp [sees] at a b
    omega
  · have a := sees_inj ho h j hj
    unfold sees at a
    rw [if_neg (by omega), if_neg (by omega)] at a
    simp at a
    rw [a]
theorem mvP_nodup (l : List UInt8) : (mvP l).Nodup := by
  unfold mvP
  rw [List.nodup_append]
  refine ⟨by split <;> simp, ?_, ?_⟩
  · unfold mvR
    have h : ((List.range l.length).filter (canR l)).Nodup := (List.nodup_range (n := l.length)).filter (canR l)
    generalize (List.range l.length).filter (canR l) = m at h
    induction m with
    | nil => simp
    | cons a m ih =>
      rw [List.nodup_cons] at h
      rw [List.map_cons, List.nodup_cons]
      refine ⟨?_, ih h.2⟩
      intro hm
      obtain ⟨b, hb, e⟩ := List.mem_map.1 hm
      have : b = a := by omega
      exact h.1 (this ▸ hb)
  · intro a ha b hb
    simp only [List.mem_map] at hb
    obtain ⟨j, _, rfl⟩ := hb
    split at ha
    · simp at ha; subst ha; omega
    · simp at ha
theorem nbr_nodup {r : Nat} (h2 : 2 ≤ r) (n : Nat) : (nbr r n).Nodup := by
  unfold nbr
  have hn := mvP_nodup (stOf r n)
  have hi : ∀ k ∈ mvP (stOf r n), ∀ k' ∈ mvP (stOf r n), num (mkP (stOf r n) k) = num (mkP (stOf r n) k') → k = k' := by
    intro k hk k' hk' h
    apply mkP_inj (by rw [stOf_length]; exact h2) (stOf_ok r n) hk hk'
    rw [mkP_eq k, mkP_eq k', h]
  generalize mvP (stOf r n) = m at hn hi
  induction m with
  | nil => simp
  | cons a m ih =>
    rw [List.nodup_cons] at hn
    rw [List.map_cons, List.nodup_cons]
    refine ⟨?_, ih hn.2 (fun k hk k' hk' => hi k (by simp [hk]) k' (by simp [hk']))⟩
    intro hm
    obtain ⟨b, hb, e⟩ := List.mem_map.1 hm
    have := hi b (by simp [hb]) a (by simp) e
    exact hn.1 (this ▸ hb)
end Go.Proofs.YtppbohghongfmaaDoor.Ring
namespace Go.Proofs.YtppbohghongfmaaDoor.Lem
open Go.RowKit Go.Proofs.YtppbohghongfmaaDoor.PN Go.Proofs.YtppbohghongfmaaDoorW.PrintWords Go.Proofs.YtppbohghongfmaaDoorW.PrintLast Go.Proofs.YtppbohghongfmaaDoorW.PrintMore Go.Proofs.YtppbohghongfmaaDoor.Ring Go.Proofs.YtppbohghongfmaaDoor.Bfs
set_option linter.unusedVariables false
set_option linter.unusedSimpArgs false

theorem nbr_count {r a b : Nat} (h2 : 2 ≤ r) (ha : a < 2 ^ r) (hb : b < 2 ^ r) : (nbr r a).count b = (nbr r b).count a := by
  have e : ∀ (x y : Nat), (nbr r x).count y = if y ∈ nbr r x then 1 else 0 := by
    intro x y
    by_cases h : y ∈ nbr r x
    · rw [if_pos h]
      exact List.Nodup.count (nbr_nodup h2 x) ▸ (if_pos h)
    · rw [if_neg h]
      exact List.count_eq_zero.2 h
  rw [e, e]
  by_cases h : b ∈ nbr r a
  · rw [if_pos h, if_pos (nbr_back ha h)]
  · rw [if_neg h, if_neg (fun h' => h (nbr_back hb h'))]
def m64 : Int := 18446744073709551616
theorem addW_mod (a b : Int) : (addW a b - (a + b)) % m64 = 0 := by
  unfold addW wrap64 m64
  omega
theorem wrap_mod {a b : Int} (h : (a - b) % m64 = 0) : wrap64 a = wrap64 b := by
  unfold wrap64
  unfold m64 at h
  omega
def Wrapped (st : St Nat) : Prop := ∀ t, wrap64 (st.ways t) = st.ways t
theorem addW_wrapped (a b : Int) : wrap64 (addW a b) = addW a b := by unfold addW wrap64; omega
theorem Wrapped.relaxed {st : St Nat} (h : Wrapped st) (u t : Nat) : Wrapped (relax addW u st t) := by
  have key : ∀ (w : Nat → Int), (∀ x, wrap64 (w x) = w x) → ∀ x, wrap64 (upd w t (addW (w t) (w u)) x) = upd w t (addW (w t) (w u)) x := by
    intro w hw x
    unfold upd
    by_cases e : x = t
    · rw [if_pos e]; exact addW_wrapped _ _
    · rw [if_neg e]; exact hw x
  intro x
  have hr : (relax addW u st t).ways = st.ways ∨ (relax addW u st t).ways = upd st.ways t (addW (st.ways t) (st.ways u)) := by
    unfold relax
    dsimp only
    split <;> split <;> first | (left; rfl) | (right; rfl)
  rcases hr with hr | hr <;> rw [hr]
  · exact h x
  · exact key st.ways h x
theorem Wrapped.foldl (u : Nat) : ∀ (l : List Nat) (st : St Nat), Wrapped st → Wrapped (l.foldl (relax addW u) st)
  | [], _, h => h
  | t :: l, st, h => Wrapped.foldl u l _ (h.relaxed u t)
theorem Wrapped.start (s : Nat) : Wrapped (init s) := by
  intro t
  unfold init
  by_cases h : t = s
  · simp only [h, if_true]; unfold wrap64; omega
  · simp only [h, if_false]; unfold wrap64; omega
/-- What the ways behind the search are. -/
def Told (r s : Nat) (st : St Nat) : Prop := (∀ n t, st.far t = some n → st.ways t = wrap64 ((walks (nbr r) n s).count t : Int)) ∧ ∀ t, st.far t = none → st.ways t = 0
theorem told_of {r s : Nat} {st : St Nat} (I : Inv (nbr r) s st st.q.length) (W : WInv (nbr r) m64 s st st.q.length) (hw : Wrapped st) : Told r s st := by
  refine ⟨fun n t h => ?_, fun t h => W.out t (fun hm => ?_)⟩
  · rw [← hw t]
    exact wrap_mod (WInv.final I W n t h)
  · have := (I.iff t).2 hm
    rw [h] at this
    cases this
theorem both_l1w (r N : Nat) (h2 : 2 ≤ r) (hr : r ≤ 12) (hN : N = 2 ^ r) (s : Nat) : ∀ (m i : Nat) (st : St Nat), Inv (nbr r) s st i → Bfs.Good N st → WInv (nbr r) m64 s st i → Wrapped st → N ≤ i + m →
    ∃ st' : St Nat, Final (nbr r) s st' ∧ Told r s st' ∧ Ev (fun k => spec_twFar.l1 k (farL N st) (wayL N st) (qL r st) (i : Int)) (farL N st', wayL N st') ∧
      Ev (fun k => impl_search.l1 k (farL N st) (wayL N st) (qL r st) (i : Int)) (farL N st', wayL N st', qL r st') := by
  intro m
  induction m with
  | zero =>
    intro i st I G W hw hm
    have hq := G.len I.nodup
    have hle := I.le
    have hi : st.q.length = i := by omega
    have hni : ¬ (i : Int) < ((qL r st).length : Int) := by rw [qL_length, hi]; exact Int.lt_irrefl _
    have I2 := I
    have W2 := W
    rw [← hi] at I2 W2
    refine ⟨st, I2.final, told_of I2 W2 hw, ?_, ?_⟩
    · refine Ev.step (f := fun _ => some (farL N st, wayL N st)) (fun k => ?_) (Ev.now _)
      simp only [spec_twFar.l1]
      rw [if_neg hni]
    · refine Ev.step (f := fun _ => some (farL N st, wayL N st, qL r st)) (fun k => ?_) (Ev.now _)
      simp only [impl_search.l1]
      rw [if_neg hni]
  | succ m ih =>
    intro i st I G W hw hm
    by_cases hi : i < st.q.length
    · have W2 := W.process addW addW_mod I hi
      obtain ⟨u, hu⟩ : ∃ u, st.q[i] = u := ⟨_, rfl⟩
      have hin := I.enter hi
      rw [hu] at hin W2
      have hlt : ∀ t ∈ nbr r u, t < N := fun t ht => by rw [hN]; exact nbr_lt ht
      have I2 := I.process addW hi
      rw [hu] at I2
      have G2 : Bfs.Good N (process addW (nbr r) st u) := G.foldl addW (nbr r u) st [] hin (fun t ht => ht) hlt
      have hw2 : Wrapped (process addW (nbr r) st u) := hw.foldl u (nbr r u) st
      obtain ⟨st', hf, hg, e1, e2⟩ := ih (i + 1) _ I2 G2 W2 hw2 (by omega)
      have huN : u < N := by rw [← hu]; exact G.rng _ (List.getElem_mem hi)
      have hil : (i : Int) < ((qL r st).length : Int) := by rw [qL_length]; exact Int.ofNat_lt.2 hi
      have hi0 : 0 ≤ (i : Int) := Int.natCast_nonneg i
      have hnth := qL_nth (r := r) hi hu
      have hlen : 2 ≤ (tx (stOf r u)).data.toList.length := by rw [tx_data, stOf_length]; exact h2
      have hlen2 : (tx (stOf r u)).data.toList.length ≤ 20 := by rw [tx_data, stOf_length]; omega
      have hok : (tx (stOf r u)).data.toList.all okc = true := by rw [tx_data]; exact stOf_ok r u
      have hnu : num (stOf r u) = u := num_stOf r u (by omega)
      refine ⟨st', hf, hg, ?_, ?_⟩
      · have n1 := riNumber (tx (stOf r u)) hlen2
        have n2 := twMoves (tx (stOf r u)) hlen hlen2 hok
        rw [tx_data, hnu] at n1
        rw [tx_data] at n2
        have n3 := far_l2 r N h2 hr hN s i u _ (mvP (stOf r u)).length 0 st [] (Nat.zero_add _) hin G e1
        refine ev_num2 n1 n2 n3 (fun k hk1 hk2 => ?_)
        simp only [spec_twFar.l1]
        rw [if_pos hil, if_pos hi0, hnth, hk1, obind, hk2, obind]
        rfl
      · have n1 := number (tx (stOf r u)) (st_tx r u (by omega) (by omega))
        have n2 := pairMoves (tx (stOf r u)) hlen hlen2
        rw [tx_data, hnu] at n1
        rw [tx_data] at n2
        have n3 := search_l2 r N h2 hr hN s i u _ (mvP (stOf r u)).length 0 st [] (Nat.zero_add _) hin G e2
        refine ev_num2 n1 n2 n3 (fun k hk1 hk2 => ?_)
        simp only [impl_search.l1]
        rw [if_pos hil, if_pos hi0, hnth, hk1, obind, hk2, obind]
        rfl
    · have hle := I.le
      have hi' : st.q.length = i := by omega
      have hni : ¬ (i : Int) < ((qL r st).length : Int) := by rw [qL_length, hi']; exact Int.lt_irrefl _
      have I2 := I
      have W2 := W
      rw [← hi'] at I2 W2
      refine ⟨st, I2.final, told_of I2 W2 hw, ?_, ?_⟩
      · refine Ev.step (f := fun _ => some (farL N st, wayL N st)) (fun k => ?_) (Ev.now _)
        simp only [spec_twFar.l1]
        rw [if_neg hni]
      · refine Ev.step (f := fun _ => some (farL N st, wayL N st, qL r st)) (fun k => ?_) (Ev.now _)
        simp only [impl_search.l1]
        rw [if_neg hni]
/-- From one state both searches end in the same rows, and these tell the fewest moves and the ways. -/
theorem far_run_w (l : List UInt8) (h2 : 2 ≤ l.length) (hr : l.length ≤ 12) (ho : l.all okc = true) :
    ∃ st' : St Nat, Final (nbr l.length) (num l) st' ∧ Told l.length (num l) st' ∧ Ev (fun k => spec_twFar.f k (tx l)) (farL (2 ^ l.length) st', wayL (2 ^ l.length) st') ∧
      Ev (fun k => impl_search.f k (tx l)) (farL (2 ^ l.length) st', wayL (2 ^ l.length) st', qL l.length st') := by
  have hn := num_lt l
  have h4096 := pow_le12 hr
  have hsh := shl_one l.length (by omega)
  obtain ⟨N, hN⟩ : ∃ N, N = 2 ^ l.length := ⟨_, rfl⟩
  rw [← hN] at hn h4096 hsh ⊢
  obtain ⟨st', hf, hg, e1, e2⟩ := both_l1w l.length N h2 hr hN (num l) N 0 (init (num l)) (Inv.start _ _) (Good.start N (num l) hn) (WInv.start _ _ _) (Wrapped.start _) (by omega)
  have hz : (List.replicate N (0 : Int)) = rowF N (mf 0) := by rw [rowF_replicate]; rfl
  have hp0 : 0 ≤ (N : Int) := Int.natCast_nonneg _
  have ht : ((N : Int)).toNat = N := rfl
  refine ⟨st', hf, hg, ?_, ?_⟩
  · have n0 := far_l0 l (by omega) ho N h4096 hn _ e1 N 0 (Nat.zero_add _)
    unfold spec_twFar.f
    rw [tx_size, hsh]
    refine Ev.congr (fun k => ?_) n0
    rw [if_pos hp0, ht, if_pos (by omega), obind, hz, rowF_length]
    rfl
  · have n0 := search_l0 l (by omega) (by omega) ho N h4096 hn _ e2 N 0 (Nat.zero_add _)
    unfold impl_search.f
    rw [tx_size, hsh]
    refine Ev.congr (fun k => ?_) n0
    rw [if_pos hp0, ht, if_pos (by omega), obind, hz, rowF_length]
    rfl
end Go.Proofs.YtppbohghongfmaaDoor.Lem
