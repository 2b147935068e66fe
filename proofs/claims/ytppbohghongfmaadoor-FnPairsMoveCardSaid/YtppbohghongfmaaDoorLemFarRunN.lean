/-
  The two searches, whole: from one state both end in the same rows.
-/
import Derived.Test.YtppbohghongfmaaDoorLemFarN
namespace Go.Proofs.YtppbohghongfmaaDoor.Bfs
theorem Good.foldl {N : Nat} {step : Nat → List Nat} {s i u : Nat} (add : Int → Int → Int) (l : List Nat) : ∀ (st : St Nat) (p : List Nat),
    InvIn step s st i u p → Good N st → (∀ t ∈ l, t ∈ step u) → (∀ t ∈ step u, t < N) → Good N (l.foldl (relax add u) st) := by
  induction l with
  | nil => intro st p I G _ _; exact G
  | cons t l ih =>
    intro st p I G h hN
    have ht := h t (by simp)
    have huf := (I.iff u).2 (List.mem_of_getElem? I.at_)
    exact ih _ _ (I.relaxed add ht) (G.relaxed add huf (hN t ht)) (fun x hx => h x (by simp [hx])) hN
end Go.Proofs.YtppbohghongfmaaDoor.Bfs
namespace Go.Proofs.YtppbohghongfmaaDoor.Lem
open Go.RowKit Go.Proofs.YtppbohghongfmaaDoor.PN Go.Proofs.YtppbohghongfmaaDoorW.PrintWords Go.Proofs.YtppbohghongfmaaDoorW.PrintLast Go.Proofs.YtppbohghongfmaaDoorW.PrintMore Go.Proofs.YtppbohghongfmaaDoor.Ring Go.Proofs.YtppbohghongfmaaDoor.Bfs
set_option linter.unusedVariables false
set_option linter.unusedSimpArgs false

theorem ev_num2 {α β γ : Type} {f : Nat → Option β} {e : Nat → Option γ} {a : β} {b : γ} {g h : Nat → Option α} {r : α} (hf : Ev f a) (hb : Ev e b) (hh : Ev h r) (he : ∀ k, f k = some a → e k = some b → g (k + 1) = h k) : Ev g r := by
  obtain ⟨K1, h1⟩ := hf
  obtain ⟨K2, h2⟩ := hb
  obtain ⟨K3, h3⟩ := hh
  refine ⟨max K1 (max K2 K3) + 1, fun n hn => ?_⟩
  obtain ⟨k, rfl⟩ : ∃ k, n = k + 1 := ⟨n - 1, by omega⟩
  rw [he k (h1 k (by omega)) (h2 k (by omega))]
  exact h3 k (by omega)
theorem rowF_congr {N : Nat} {f g : Nat → Int} (h : ∀ m, m < N → f m = g m) : rowF N f = rowF N g := by
  unfold rowF
  apply List.map_congr_left
  intro m hm
  exact h m (List.mem_range.1 hm)
theorem rowF_replicate (N : Nat) : List.replicate N (0 : Int) = rowF N (fun _ => 0) := by
  unfold rowF
  apply List.ext_getElem <;> simp
theorem qL_nth {r : Nat} {st : St Nat} {i u : Nat} (hi : i < st.q.length) (hu : st.q[i] = u) : rdOf ByteArray.empty (qL r st) (i : Int) = tx (stOf r u) := by rw [qL_at r st i hi, hu]
theorem both_l1 (r N : Nat) (h2 : 2 ≤ r) (hr : r ≤ 12) (hN : N = 2 ^ r) (s : Nat) : ∀ (m i : Nat) (st : St Nat), Inv (nbr r) s st i → Bfs.Good N st → N ≤ i + m →
    ∃ st' : St Nat, Final (nbr r) s st' ∧ Bfs.Good N st' ∧ Ev (fun k => spec_twFar.l1 k (farL N st) (wayL N st) (qL r st) (i : Int)) (farL N st', wayL N st') ∧
      Ev (fun k => impl_search.l1 k (farL N st) (wayL N st) (qL r st) (i : Int)) (farL N st', wayL N st', qL r st') := by
  intro m
  induction m with
  | zero =>
    intro i st I G hm
    have hq := G.len I.nodup
    have hle := I.le
    have hi : st.q.length = i := by omega
    have hni : ¬ (i : Int) < ((qL r st).length : Int) := by rw [qL_length, hi]; exact Int.lt_irrefl _
    have I2 := I
    rw [← hi] at I2
    refine ⟨st, I2.final, G, ?_, ?_⟩
    · refine Ev.step (f := fun _ => some (farL N st, wayL N st)) (fun k => ?_) (Ev.now _)
      simp only [spec_twFar.l1]
      rw [if_neg hni]
    · refine Ev.step (f := fun _ => some (farL N st, wayL N st, qL r st)) (fun k => ?_) (Ev.now _)
      simp only [impl_search.l1]
      rw [if_neg hni]
  | succ m ih =>
    intro i st I G hm
    by_cases hi : i < st.q.length
    · obtain ⟨u, hu⟩ : ∃ u, st.q[i] = u := ⟨_, rfl⟩
      have hin := I.enter hi
      rw [hu] at hin
      have hlt : ∀ t ∈ nbr r u, t < N := fun t ht => by rw [hN]; exact nbr_lt ht
      have I2 := I.process addW hi
      rw [hu] at I2
      have G2 : Bfs.Good N (process addW (nbr r) st u) := G.foldl addW (nbr r u) st [] hin (fun t ht => ht) hlt
      obtain ⟨st', hf, hg, e1, e2⟩ := ih (i + 1) _ I2 G2 (by omega)
      have huN : u < N := by rw [← hu]; exact G.rng _ (List.getElem_mem hi)
      have hil : (i : Int) < ((qL r st).length : Int) := by rw [qL_length]; exact Int.ofNat_lt.2 hi
      have hi0 : 0 ≤ (i : Int) := Int.natCast_nonneg i
      have hnth := qL_nth (r := r) hi hu
      have hlen : 2 ≤ (tx (stOf r u)).data.toList.length := by rw [tx_data, stOf_length]; exact h2
      have hlen2 : (tx (stOf r u)).data.toList.length ≤ 20 := by rw [tx_data, stOf_length]; omega
      have hok : (tx (stOf r u)).data.toList.all okc = true := by rw [tx_data]; exact stOf_ok r u
      have hnu : num (stOf r u) = u := num_stOf r u (by omega)
      refine ⟨st', hf, hg, ?_, ?_⟩
      · have n1 := riNumber (tx (stOf r u)) hlen2
        have n2 := twMoves (tx (stOf r u)) hlen hlen2 hok
        rw [tx_data, hnu] at n1
        rw [tx_data] at n2
        have n3 := far_l2 r N h2 hr hN s i u _ (mvP (stOf r u)).length 0 st [] (Nat.zero_add _) hin G e1
        refine ev_num2 n1 n2 n3 (fun k hk1 hk2 => ?_)
        simp only [spec_twFar.l1]
        rw [if_pos hil, if_pos hi0, hnth, hk1, obind, hk2, obind]
        rfl
      · have n1 := number (tx (stOf r u)) (st_tx r u (by omega) (by omega))
        have n2 := pairMoves (tx (stOf r u)) hlen hlen2
        rw [tx_data, hnu] at n1
        rw [tx_data] at n2
        have n3 := search_l2 r N h2 hr hN s i u _ (mvP (stOf r u)).length 0 st [] (Nat.zero_add _) hin G e2
        refine ev_num2 n1 n2 n3 (fun k hk1 hk2 => ?_)
        simp only [impl_search.l1]
        rw [if_pos hil, if_pos hi0, hnth, hk1, obind, hk2, obind]
        rfl
    · have hle := I.le
      have hi' : st.q.length = i := by omega
      have hni : ¬ (i : Int) < ((qL r st).length : Int) := by rw [qL_length, hi']; exact Int.lt_irrefl _
      have I2 := I
      rw [← hi'] at I2
      refine ⟨st, I2.final, G, ?_, ?_⟩
      · refine Ev.step (f := fun _ => some (farL N st, wayL N st)) (fun k => ?_) (Ev.now _)
        simp only [spec_twFar.l1]
        rw [if_neg hni]
      · refine Ev.step (f := fun _ => some (farL N st, wayL N st, qL r st)) (fun k => ?_) (Ev.now _)
        simp only [impl_search.l1]
        rw [if_neg hni]
/-- The row of which so many first ones are -1. -/
def mf (i : Nat) : Nat → Int := fun m => if m < i then -1 else 0
theorem mf_set (N i : Nat) : (rowF N (mf i)).set i (-1) = rowF N (mf (i + 1)) := by
  rw [rowF_set]
  apply rowF_congr
  intro m _
  simp only [upd, mf]
  by_cases h : m = i
  · rw [if_pos h, if_pos (by omega)]
  · rw [if_neg h]
    by_cases h2 : m < i
    · rw [if_pos h2, if_pos (by omega)]
    · rw [if_neg h2, if_neg (by omega)]
theorem far_start (N s : Nat) : (rowF N (mf N)).set s 0 = farL N (init s) := by
  rw [rowF_set]
  unfold farL
  apply rowF_congr
  intro m hm
  simp only [upd, mf, init]
  by_cases h : m = s
  · rw [if_pos h, if_pos h]; rfl
  · rw [if_neg h, if_neg h, if_pos hm]; rfl
theorem way_start (N s : Nat) : (rowF N (fun _ => 0)).set s 1 = wayL N (init s) := by
  rw [rowF_set]
  unfold wayL
  apply rowF_congr
  intro m hm
  simp only [upd, init]
theorem q_start (l : List UInt8) (ho : l.all okc = true) : [tx l] = qL l.length (init (num l)) := by
  simp only [qL, init, List.map_cons, List.map_nil]
  rw [stOf_num l ho]
theorem far_l0 (l : List UInt8) (hs : l.length ≤ 20) (ho : l.all okc = true) (N : Nat) (hN : N ≤ 4096) (hn : num l < N) (R : List Int × List Int)
    (h : Ev (fun k => spec_twFar.l1 k (farL N (init (num l))) (wayL N (init (num l))) (qL l.length (init (num l))) (0 : Int)) R) : ∀ (d i : Nat), i + d = N →
    Ev (fun k => spec_twFar.l0 k (tx l) (rowF N (mf i)) (rowF N (fun _ => 0)) (N : Int) (i : Int)) R := by
  intro d
  induction d with
  | zero =>
    intro i hi
    have hi' : i = N := by omega
    subst hi'
    have n1 := riNumber (tx l) (by rw [tx_data]; exact hs)
    rw [tx_data] at n1
    have hlt : (num l : Int) < (i : Int) := Int.ofNat_lt.2 hn
    have h0 : 0 ≤ (num l : Int) := Int.natCast_nonneg _
    refine ev_num n1 h (fun k hk => ?_)
    simp only [spec_twFar.l0]
    rw [if_neg (Int.lt_irrefl _), hk, obind, if_pos h0, rowF_length, if_pos hlt, rowF_length, if_pos hlt, show ((num l : Int)).toNat = num l from rfl, far_start, way_start, q_start l ho]
  | succ d ih =>
    intro i hi
    refine Ev.step (fun k => ?_) (ih (i + 1) (by omega))
    have hlt : (i : Int) < (N : Int) := Int.ofNat_lt.2 (by omega)
    simp only [spec_twFar.l0]
    rw [if_pos hlt, if_pos (Int.natCast_nonneg _), rowF_length, if_pos hlt, show ((i : Int)).toNat = i from rfl, mf_set, succ64 (by omega)]
theorem search_l0 (l : List UInt8) (h1 : 1 ≤ l.length) (hs : l.length ≤ 20) (ho : l.all okc = true) (N : Nat) (hN : N ≤ 4096) (hn : num l < N) (R : List Int × List Int × List ByteArray)
    (h : Ev (fun k => impl_search.l1 k (farL N (init (num l))) (wayL N (init (num l))) (qL l.length (init (num l))) (0 : Int)) R) : ∀ (d i : Nat), i + d = N →
    Ev (fun k => impl_search.l0 k (tx l) (rowF N (mf i)) (rowF N (fun _ => 0)) (N : Int) (i : Int)) R := by
  intro d
  induction d with
  | zero =>
    intro i hi
    have hi' : i = N := by omega
    subst hi'
    have n1 := number (tx l) (by rw [tx_data]; simp [isSt, h1, hs, ho])
    rw [tx_data] at n1
    have hlt : (num l : Int) < (i : Int) := Int.ofNat_lt.2 hn
    have h0 : 0 ≤ (num l : Int) := Int.natCast_nonneg _
    refine ev_num n1 h (fun k hk => ?_)
    simp only [impl_search.l0]
    rw [if_neg (Int.lt_irrefl _), hk, obind, obind, if_pos h0, rowF_length, if_pos hlt, if_pos h0, rowF_length, if_pos hlt, show ((num l : Int)).toNat = num l from rfl, far_start, way_start, q_start l ho]
  | succ d ih =>
    intro i hi
    refine Ev.step (fun k => ?_) (ih (i + 1) (by omega))
    have hlt : (i : Int) < (N : Int) := Int.ofNat_lt.2 (by omega)
    simp only [impl_search.l0]
    rw [if_pos hlt, if_pos (Int.natCast_nonneg _), rowF_length, if_pos hlt, show ((i : Int)).toNat = i from rfl, mf_set, succ64 (by omega)]
/-- From one state both searches end in the same rows, and these tell the fewest moves. -/
theorem far_run (l : List UInt8) (h2 : 2 ≤ l.length) (hr : l.length ≤ 12) (ho : l.all okc = true) :
    ∃ st' : St Nat, Final (nbr l.length) (num l) st' ∧ Bfs.Good (2 ^ l.length) st' ∧ Ev (fun k => spec_twFar.f k (tx l)) (farL (2 ^ l.length) st', wayL (2 ^ l.length) st') ∧
      Ev (fun k => impl_search.f k (tx l)) (farL (2 ^ l.length) st', wayL (2 ^ l.length) st', qL l.length st') := by
  have hn := num_lt l
  have h4096 := pow_le12 hr
  have hsh := shl_one l.length (by omega)
  obtain ⟨N, hN⟩ : ∃ N, N = 2 ^ l.length := ⟨_, rfl⟩
  rw [← hN] at hn h4096 hsh ⊢
  obtain ⟨st', hf, hg, e1, e2⟩ := both_l1 l.length N h2 hr hN (num l) N 0 (init (num l)) (Inv.start _ _) (Good.start N (num l) hn) (by omega)
  have hz : (List.replicate N (0 : Int)) = rowF N (mf 0) := by rw [rowF_replicate]; rfl
  have hp0 : 0 ≤ (N : Int) := Int.natCast_nonneg _
  have ht : ((N : Int)).toNat = N := rfl
  refine ⟨st', hf, hg, ?_, ?_⟩
  · have n0 := far_l0 l (by omega) ho N h4096 hn _ e1 N 0 (Nat.zero_add _)
    unfold spec_twFar.f
    rw [tx_size, hsh]
    refine Ev.congr (fun k => ?_) n0
    rw [if_pos hp0, ht, if_pos (by omega), obind, hz, rowF_length]
    rfl
  · have n0 := search_l0 l (by omega) (by omega) ho N h4096 hn _ e2 N 0 (Nat.zero_add _)
    unfold impl_search.f
    rw [tx_size, hsh]
    refine Ev.congr (fun k => ?_) n0
    rw [if_pos hp0, ht, if_pos (by omega), obind, hz, rowF_length]
    rfl
end Go.Proofs.YtppbohghongfmaaDoor.Lem
