/-
  The ways of fewest slides from one state to another: the law holds.
-/
import Derived.Test.YtejkogiiocbmfaaLemTwoC
import Derived.Test.YtejkogiiocbmfaaLemCopyC
import Derived.Test.YtejkogiiocbmfaaPCx24
namespace Go.Proofs.Ytejkogiiocbmfaa.Lem
open Go.RowKit Go.Proofs.Ytejkogiiocbmfaa.PC Go.Proofs.YtejkogiiocbmfaaW.PrintWords Go.Proofs.YtejkogiiocbmfaaW.PrintLast Go.Proofs.YtejkogiiocbmfaaW.PrintMore Go.Proofs.Ytejkogiiocbmfaa.Bfs
set_option linter.unusedVariables false
set_option linter.unusedSimpArgs false

theorem relax_ext (add : Int → Int → Int) (u : Stt) (st : St Stt) (t x : Stt) (n : Nat) (h : st.far x = some n) : (relax add u st t).far x = some n := by
  rw [(relax_q_far add u st t).2]
  cases e : st.far t with
  | some v => exact h
  | none =>
    have hne : x ≠ t := fun e2 => by rw [e2, e] at h; cases h
    simp only [Option.isNone_none, if_true, Bfs.upd, if_neg hne]
    exact h
theorem foldl_ext (add : Int → Int → Int) (u : Stt) (x : Stt) (n : Nat) : ∀ (l : List Stt) (st : St Stt), st.far x = some n → (l.foldl (relax add u) st).far x = some n
  | [], st, h => h
  | t :: l, st, h => foldl_ext add u x n l _ (relax_ext add u st t x n h)
theorem relax_pre (add : Int → Int → Int) (u : Stt) (st : St Stt) (t : Stt) : st.q <+: (relax add u st t).q := by
  rw [(relax_q_far add u st t).1]
  split
  · exact List.prefix_append _ _
  · exact List.prefix_rfl
theorem foldl_pre (add : Int → Int → Int) (u : Stt) : ∀ (l : List Stt) (st : St Stt), st.q <+: (l.foldl (relax add u) st).q
  | [], st => List.prefix_rfl
  | t :: l, st => (relax_pre add u st t).trans (foldl_pre add u l _)
theorem run_ext (add : Int → Int → Int) (step : Stt → List Stt) (x : Stt) (n : Nat) : ∀ (m i : Nat) (st : St Stt), st.far x = some n → (run add step m i st).far x = some n
  | 0, i, st, h => h
  | m + 1, i, st, h => by
    unfold run
    split
    · exact run_ext add step x n m _ _ (foldl_ext add _ x n _ _ h)
    · exact h
theorem run_pre (add : Int → Int → Int) (step : Stt → List Stt) : ∀ (m i : Nat) (st : St Stt), st.q <+: (run add step m i st).q
  | 0, i, st => List.prefix_rfl
  | m + 1, i, st => by
    unfold run
    split
    · exact (foldl_pre add _ _ st).trans (run_pre add step m _ _)
    · exact List.prefix_rfl
def WayR (pl : List Int) (W : List Int) (st : St Stt) : Prop := W.length = prodB pl ∧ ∀ s, isStB pl s = true → W.getD (numB pl s) 0 = st.ways s
theorem WayR.set {pl : List Int} {bl : List Blk} (hg : goodB pl bl = true) {W : List Int} {st : St Stt} (h : WayR pl W st) {t : Stt} (ht : isStB pl t = true) (v : Int) (q : List Stt) (f : Stt → Option Nat) : WayR pl (W.set (numB pl t) v) ⟨q, f, Bfs.upd st.ways t v⟩ := by
  refine ⟨by rw [List.length_set]; exact h.1, fun s hs => ?_⟩
  rw [getD_set (by rw [h.1]; exact numB_lt hg ht)]
  simp only [Bfs.upd]
  by_cases e : s = t
  · rw [if_pos e, if_pos (by rw [e])]
  · rw [if_neg e, if_neg (fun h => e (numB_inj hg hs ht h.symm))]
    exact h.2 s hs
theorem l1Least_eq (a : Int) : spec_l1Least.f 1000000000000001 a = some (impl_searched.cap a) := by
  unfold spec_l1Least.f impl_searched.cap
  by_cases h : 1000000000000001 < a
  · rw [if_pos h, if_pos h]
  · rw [if_neg h, if_neg h]
theorem ways_l1 {pl : List Int} {bl : List Blk} (hg : goodB pl bl = true) (s0 : Stt) (i : Nat) (hi : i < 1001) (u : Stt) (fin : St Stt) (F : List Int) (hF : FarR pl F fin) (tb : ByteArray) (Q : List ByteArray) (n : Int) : ∀ (d j : Nat) (st : St Stt) (p : List Stt) (W : List Int),
    j + d = (msB pl bl u).length → InvIn (stepB pl bl) s0 st i u p → GoodS (okS pl bl) st → WayR pl W st → (∀ x n, (((stepB pl bl u).drop j).foldl (relax addC u) st).far x = some n → fin.far x = some n) →
    ∃ W', WayR pl W' (((stepB pl bl u).drop j).foldl (relax addC u) st) ∧ ∀ R, Ev (fun k => spec_CountSlideWays.l0 k tb F W' Q n ((i + 1 : Nat) : Int) pl bl) R →
      Ev (fun k => spec_CountSlideWays.l1 k tb F W (tx u) ((numB pl u : Nat) : Int) Q n (i : Int) (msB pl bl u) ((msB pl bl u).length : Int) (j : Int) pl bl) R := by
  intro d
  induction d with
  | zero =>
    intro j st p W hj I G hW hx
    have hd0 : (stepB pl bl u).drop j = [] := List.drop_eq_nil_of_le (by rw [step_len]; omega)
    rw [hd0]
    refine ⟨W, hW, fun R h => ?_⟩
    refine Ev.step (fun k => ?_) h
    simp only [spec_CountSlideWays.l1]
    rw [if_neg (show ¬ (j : Int) < ((msB pl bl u).length : Int) from fun h => by have := Int.ofNat_lt.1 h; omega), succ64 (by omega)]
  | succ d ih =>
    intro j st p W hj I G hW hx
    have hjl : j < (msB pl bl u).length := by omega
    obtain ⟨m, hm⟩ : ∃ m, (msB pl bl u)[j] = m := ⟨_, rfl⟩
    have hmm : m ∈ msB pl bl u := hm ▸ List.getElem_mem hjl
    have hn := ms_some hmm
    obtain ⟨t, ht⟩ : ∃ t, nx pl bl u m = t := ⟨_, rfl⟩
    rw [ht] at hn
    have hdr : (stepB pl bl u).drop j = t :: (stepB pl bl u).drop (j + 1) := by
      have hjs : j < (stepB pl bl u).length := by rw [step_len]; exact hjl
      rw [List.drop_eq_getElem_cons hjs, step_get hjl hjs, hm, ht]
    have htm : t ∈ stepB pl bl u := ht ▸ List.mem_map_of_mem hmm
    have huq : u ∈ st.q := List.mem_of_getElem? I.at_
    have hou := G.ok u huq
    have hot := next_ok hn
    have huf := (I.iff u).2 huq
    have hlen := G.len (setup hg) I.nodup
    have hp1 := (prodB_le hg).1
    have hj62 : j < 4611686018427387904 := by have := ms_len hg u; omega
    have hdl := G.d huf
    obtain ⟨r, hr, hr2, hr3⟩ := boPut pl bl u m.f0 m.f1 hg hou.1
    have hr1 := hr3 _ hn
    have hnum := boNumber pl bl t hg hot.1
    have hnt : ((numB pl t : Nat) : Int) < (F.length : Int) := by rw [hF.1]; exact Int.ofNat_lt.2 (numB_lt hg hot.1)
    have hnu : ((numB pl u : Nat) : Int) < (F.length : Int) := by rw [hF.1]; exact Int.ofNat_lt.2 (numB_lt hg hou.1)
    have hwt : ((numB pl t : Nat) : Int) < (W.length : Int) := by rw [hW.1]; exact Int.ofNat_lt.2 (numB_lt hg hot.1)
    have hwu : ((numB pl u : Nat) : Int) < (W.length : Int) := by rw [hW.1]; exact Int.ofNat_lt.2 (numB_lt hg hou.1)
    have hsj : wrap64 ((j : Int) + 1) = ((j + 1 : Nat) : Int) := succ64 hj62
    have hrW : rd W ((numB pl t : Nat) : Int) = st.ways t := hW.2 t hot.1
    have hrU : rd W ((numB pl u : Nat) : Int) = st.ways u := hW.2 u hou.1
    have hJ : (j : Int) < ((msB pl bl u).length : Int) := Int.ofNat_lt.2 hjl
    have I2 := I.relaxed addC htm
    have G2 := G.relaxed addC huf hot
    rw [hdr] at hx ⊢
    simp only [List.foldl_cons] at hx ⊢
    obtain ⟨du, hdu⟩ := Option.isSome_iff_exists.1 huf
    have hd : Bfs.d st u = du := by simp [Bfs.d, hdu]
    rw [hd] at hdl
    have hfu : rd F ((numB pl u : Nat) : Int) = (du : Int) := by
      have h := hF.2 u hou.1
      rw [hx u du (foldl_ext addC u u du _ _ (relax_ext addC u st t u du hdu))] at h
      exact h
    have hsd : wrap64 ((du : Int) + 1) = ((du + 1 : Nat) : Int) := succ64 (by omega)
    have hft : ∀ v, (relax addC u st t).far t = some v → rd F ((numB pl t : Nat) : Int) = (v : Int) := by
      intro v hv
      have h := hF.2 t hot.1
      rw [hx t v (foldl_ext addC u t v _ _ hv)] at h
      exact h
    obtain ⟨K1, g1⟩ := hr
    obtain ⟨K2, g2⟩ := hnum
    have g1 : ∀ k, K1 ≤ k → spec_boPut.f k pl bl (tx u) m.f0 m.f1 = some r := g1
    have g2 : ∀ k, K2 ≤ k → spec_boNumber.f k pl bl (tx t) = some ((numB pl t : Nat) : Int) := g2
    by_cases hv : (relax addC u st t).far t = some (du + 1)
    · have hW2 : WayR pl (W.set (numB pl t) (addC (st.ways t) (st.ways u))) (relax addC u st t) := by
        cases e : st.far t with
        | none =>
          have hut : u ≠ t := fun e2 => by rw [e2, e] at hdu; cases hdu
          rw [relax_new e hut]
          exact WayR.set hg hW hot.1 _ _ _
        | some v =>
          have e2 := relax_ext addC u st t t v e
          rw [hv] at e2
          obtain rfl := Option.some.inj e2
          rw [relax_same (by rw [e, hd])]
          exact WayR.set hg hW hot.1 _ _ _
      obtain ⟨W', hW', K⟩ := ih (j + 1) _ _ _ (ar_j hj) I2 G2 hW2 hx
      refine ⟨W', hW', fun R h => ?_⟩
      obtain ⟨K3, g3⟩ := K R h
      refine ⟨max K1 (max K2 K3) + 1, fun n hn => ?_⟩
      obtain ⟨k, rfl, k1, k2, k3⟩ := max3 hn
      simp only [spec_CountSlideWays.l1]
      rw [if_pos hJ, if_pos (Int.natCast_nonneg _), if_pos hJ, rdSl_get hjl, hm, g1 k k1, obind, hr1, g2 k k2, obind, if_pos (Int.natCast_nonneg _), if_pos hnt, if_pos (Int.natCast_nonneg _), if_pos hnu, hft _ hv, hfu, hsd, if_pos rfl, if_pos hwt, if_pos hwu, hrW, hrU, l1Least_eq, obind, hsj, Int.toNat_natCast]
      exact g3 k k3
    · have hs : ∃ v, st.far t = some v ∧ v ≠ du + 1 := by
        cases e : st.far t with
        | none =>
          have hut : u ≠ t := fun e2 => by rw [e2, e] at hdu; cases hdu
          rw [relax_new e hut] at hv
          exact absurd (by simp [Bfs.upd, hd]) hv
        | some v => exact ⟨v, rfl, fun e2 => hv (relax_ext addC u st t t _ (by rw [e, e2]))⟩
      obtain ⟨v, e, hvn⟩ := hs
      have hW2 : WayR pl W (relax addC u st t) := by
        rw [relax_not (by rw [e]; simp) (by rw [e, hd]; simpa using hvn)]
        exact hW
      obtain ⟨W', hW', K⟩ := ih (j + 1) _ _ _ (ar_j hj) I2 G2 hW2 hx
      refine ⟨W', hW', fun R h => ?_⟩
      obtain ⟨K3, g3⟩ := K R h
      have hne : ¬ ((v : Int) = ((du + 1 : Nat) : Int)) := fun h => hvn (Int.ofNat.inj h)
      refine ⟨max K1 (max K2 K3) + 1, fun n hn => ?_⟩
      obtain ⟨k, rfl, k1, k2, k3⟩ := max3 hn
      simp only [spec_CountSlideWays.l1]
      rw [if_pos hJ, if_pos (Int.natCast_nonneg _), if_pos hJ, rdSl_get hjl, hm, g1 k k1, obind, hr1, g2 k k2, obind, if_pos (Int.natCast_nonneg _), if_pos hnt, if_pos (Int.natCast_nonneg _), if_pos hnu, hft _ (relax_ext addC u st t t v e), hfu, hsd, if_neg hne, hsj]
      exact g3 k k3
def capR (n : Int) : Int × Bool := if n > 1000000000000000 then (0, false) else (n, true)
theorem ways_l0 {pl : List Int} {bl : List Blk} (hg : goodB pl bl = true) (s0 : Stt) (fin : St Stt) (F : List Int) (hF : FarR pl F fin) (t : Stt) (ht : okS pl bl t) (hq : fin.q.length < 1001) : ∀ (m i : Nat) (st : St Stt) (W : List Int), Inv (stepB pl bl) s0 st i → GoodS (okS pl bl) st → WayR pl W st → prodB pl ≤ i + m → run addC (stepB pl bl) m i st = fin →
    Ev (fun k => spec_CountSlideWays.l0 k (tx t) F W (fin.q.map tx) (fin.q.length : Int) (i : Int) pl bl) (capR (fin.ways t)) := by
  have stop : ∀ (i : Nat) (W : List Int), WayR pl W fin → ¬ i < fin.q.length → Ev (fun k => spec_CountSlideWays.l0 k (tx t) F W (fin.q.map tx) (fin.q.length : Int) (i : Int) pl bl) (capR (fin.ways t)) := by
    intro i W hW hi
    have hwt : ((numB pl t : Nat) : Int) < (W.length : Int) := by rw [hW.1]; exact Int.ofNat_lt.2 (numB_lt hg ht.1)
    have hrW : rd W ((numB pl t : Nat) : Int) = fin.ways t := hW.2 t ht.1
    refine ev_num (boNumber pl bl t hg ht.1) (Ev.now (capR (fin.ways t))) (fun k hk => ?_)
    simp only [spec_CountSlideWays.l0]
    rw [if_neg (fun h => hi (Int.ofNat_lt.1 h)), hk, obind, if_pos (Int.natCast_nonneg _), if_pos hwt, hrW]
    unfold capR
    split <;> rfl
  intro m
  induction m with
  | zero =>
    intro i st W I G hW hN hfin
    have h1 := G.len (setup hg) I.nodup
    have hfin' : st = fin := hfin
    subst hfin'
    exact stop i W hW (by omega)
  | succ m ih =>
    intro i st W I G hW hN hfin
    by_cases hi : i < st.q.length
    · obtain ⟨u, hu⟩ : ∃ u, st.q[i] = u := ⟨_, rfl⟩
      have hin := I.enter hi
      rw [hu] at hin
      have hou : okS pl bl u := hu ▸ G.ok _ (List.getElem_mem hi)
      have I2 := I.process addC hi
      rw [hu] at I2
      have G2 : GoodS (okS pl bl) (process addC (stepB pl bl) st u) := GoodS.foldl addC (stepB pl bl u) st [] hin G (fun t ht => ht) ((setup hg).next u hou)
      have hrun : run addC (stepB pl bl) (m + 1) i st = run addC (stepB pl bl) m (i + 1) (process addC (stepB pl bl) st u) := by
        conv => lhs; unfold run
        rw [dif_pos hi, hu]
      have hpre : st.q <+: fin.q := by rw [← hfin]; exact run_pre addC _ _ _ _
      have hif : i < fin.q.length := Nat.lt_of_lt_of_le hi hpre.length_le
      have hqu : fin.q[i] = u := by rw [← hpre.getElem hi]; exact hu
      rw [hrun] at hfin
      have hx : ∀ x n, (((stepB pl bl u).drop 0).foldl (relax addC u) st).far x = some n → fin.far x = some n := by
        intro x n h
        rw [← hfin]
        exact run_ext addC _ x n _ _ _ h
      obtain ⟨W', hW', K⟩ := ways_l1 hg s0 i (by omega) u fin F hF (tx t) (fin.q.map tx) (fin.q.length : Int) (msB pl bl u).length 0 st [] W (Nat.zero_add _) hin G hW hx
      rw [List.drop_zero] at hW'
      have e := K _ (ih (i + 1) _ W' I2 G2 hW' (by omega) hfin)
      obtain ⟨K1, g1⟩ := boNumber pl bl u hg hou.1
      obtain ⟨K2, g2⟩ := boSlides (pl := pl) (bl := bl) hg hou.1
      obtain ⟨K3, g3⟩ := e
      have g1 : ∀ k, K1 ≤ k → spec_boNumber.f k pl bl (tx u) = some ((numB pl u : Nat) : Int) := g1
      have g2 : ∀ k, K2 ≤ k → spec_boSlides.f k pl bl (tx u) = some (msB pl bl u) := g2
      refine ⟨max K1 (max K2 K3) + 1, fun n hn => ?_⟩
      obtain ⟨k, rfl, k1, k2, k3⟩ := max3 hn
      simp only [spec_CountSlideWays.l0]
      rw [if_pos (Int.ofNat_lt.2 hif), if_pos (Int.natCast_nonneg _), if_pos (show (i : Int) < ((fin.q.map tx).length : Int) by rw [List.length_map]; exact Int.ofNat_lt.2 hif), rdM hif, hqu, g1 k k1, obind, g2 k k2, obind]
      exact g3 k k3
    · have hrun : run addC (stepB pl bl) (m + 1) i st = st := by
        conv => lhs; unfold run
        rw [dif_neg hi]
      rw [hrun] at hfin
      subst hfin
      exact stop i W hW hi
def waysR (pl : List Int) (bl : List Blk) (s t : Stt) : Int × Bool := if (askedB pl bl s && askedB pl bl t) = true then capR ((foundB pl bl s).ways t) else (0, false)
theorem spec_ways (pl : List Int) (bl : List Blk) (s t : Stt) (hl : pl.length ≤ 1048576) (hb : bl.length ≤ 1048576) : Ev (fun k => spec_CountSlideWays.f k pl bl (tx s) (tx t)) (waysR pl bl s t) := by
  unfold spec_CountSlideWays.f waysR
  refine Ev.bind (boTwo pl bl s t hl hb) ?_
  cases ha : (askedB pl bl s && askedB pl bl t) with
  | false => exact Ev.congr (fun k => if_neg (by simp)) (Ev.now _)
  | true =>
    rw [if_pos rfl]
    rw [Bool.and_eq_true] at ha
    obtain ⟨hg, hs⟩ := asked_parts ha.1
    obtain ⟨_, ht⟩ := asked_parts ha.2
    obtain ⟨F, hF, h⟩ := boFar hg hs
    obtain ⟨hp1, hp2⟩ := prodB_le hg
    obtain ⟨hI, hG⟩ := found_good (setup hg) (s := s) hs
    have hlen : (foundB pl bl s).q.length ≤ prodB pl := hG.len (setup hg) hI.nodup
    have hlt := numB_lt hg hs.1
    have hW0 : WayR pl ((List.replicate (prodB pl) (0 : Int)).set (numB pl s) 1) (init s) := by
      refine ⟨by rw [List.length_set, List.length_replicate], fun t ht => ?_⟩
      rw [getD_set (by rw [List.length_replicate]; exact hlt)]
      by_cases e : t = s
      · rw [if_pos (by rw [e])]
        simp [init, e]
      · rw [if_neg (fun h => e (numB_inj hg ht hs.1 h.symm))]
        have hl := numB_lt hg ht
        rw [List.getD_eq_getElem?_getD, List.getElem?_replicate, if_pos hl]
        simp [init, e]
    have hw := ways_l0 hg s (foundB pl bl s) F hF t ht (by omega) (prodB pl) 0 (init s) _ (Inv.start _ _) (GoodS.start hs) hW0 (by omega) rfl
    have hnu : ((numB pl s : Nat) : Int) < ((List.replicate (prodB pl) (0 : Int)).length : Int) := by rw [List.length_replicate]; exact Int.ofNat_lt.2 hlt
    refine Ev.congr (fun k => if_pos rfl) (Ev.bind h ?_)
    refine Ev.congr (fun k => by rw [if_pos (Int.natCast_nonneg _), Int.toNat_natCast, hF.1, if_pos (by omega), obind]) (Ev.bind (boNumber pl bl s hg hs.1) ?_)
    refine Ev.congr (fun k => ?_) hw
    rw [if_pos (Int.natCast_nonneg _), if_pos hnu, List.length_map]
    rfl
theorem impl_ways (pl : List Int) (bl : List Blk) (s t : Stt) (hl : pl.length ≤ 1048576) (hb : bl.length ≤ 1048576) : Ev (fun k => impl_CountSlideWays.f k pl bl (tx s) (tx t)) (waysR pl bl s t) := by
  unfold impl_CountSlideWays.f waysR
  refine Ev.bind (good_two pl bl s t hl hb) ?_
  cases ha : (askedB pl bl s && askedB pl bl t) with
  | false => exact Ev.congr (fun k => if_neg (by simp)) (Ev.now _)
  | true =>
    rw [if_pos rfl]
    rw [Bool.and_eq_true] at ha
    obtain ⟨hg, hs⟩ := asked_parts ha.1
    obtain ⟨_, ht⟩ := asked_parts ha.2
    obtain ⟨hI, hG⟩ := found_good (setup hg) (s := s) hs
    refine Ev.congr (fun k => by rw [if_pos rfl, if_pos ⟨ok_small hg hs, ok_small hg ht⟩]) (Ev.bind (f := fun _ (q : List ByteArray × (ByteArray → Option Int) × (ByteArray → Option Int)) => if (q.2.2 (tx t)).getD 0 > 1000000000000000 then some (0, false) else some ((q.2.2 (tx t)).getD 0, true)) (search_run hg s hs) (Ev.congr (fun k => ?_) (Ev.now _)))
    have e : (gB (foundB pl bl s) (tx t)).getD 0 = (foundB pl bl s).ways t := by
      rw [gB_tx]
      cases hf : (foundB pl bl s).far t with
      | none => rw [if_neg (by simp)]; exact (hG.out t hf).symm
      | some v => simp
    rw [e]
    unfold capR
    split <;> rfl
end Go.Proofs.Ytejkogiiocbmfaa.Lem
namespace Go.Proofs.Ytejkogiiocbmfaa.Pure
open Go.RowKit Go.Proofs.Ytejkogiiocbmfaa.Lem Go.Proofs.Ytejkogiiocbmfaa.PC Go.Proofs.YtejkogiiocbmfaaW.PrintWords Go.Proofs.YtejkogiiocbmfaaW.PrintLast Go.Proofs.YtejkogiiocbmfaaW.PrintMore

theorem FnExactCountSlideWays : laws_FnExactCountSlideWays.Pure := by
  intro pl bl s u hl _ hb _ _
  obtain ⟨t, ht, hc⟩ := szBolts pl bl hl hb
  have key : Ev (fun k => laws_FnExactCountSlideWays.f k pl bl s u) true := by
    unfold laws_FnExactCountSlideWays.f
    by_cases d0 : (s.size : Int) > 1048576
    · exact Ev.congr (fun k => if_pos d0) (Ev.now _)
    refine Ev.congr (fun k => if_neg d0) ?_
    by_cases d1 : (u.size : Int) > 1048576
    · exact Ev.congr (fun k => if_pos d1) (Ev.now _)
    refine Ev.congr (fun k => if_neg d1) ?_
    refine Ev.congr (fun k => by rw [ht, obind]) ?_
    by_cases c1 : t < 0
    · exact Ev.congr (fun k => if_pos c1) (Ev.now _)
    have hh := hc.resolve_left c1
    have hb2 : (bl.map cp).length ≤ 1048576 := by rw [List.length_map]; exact hh.2
    have e1 := spec_ways pl (bl.map cp) s.data.toList u.data.toList hh.1 hb2
    have e2 := impl_ways pl (bl.map cp) s.data.toList u.data.toList hh.1 hb2
    rw [tx_self, tx_self] at e1 e2
    refine Ev.congr (fun k => if_neg c1) (Ev.bind (toBolts pl bl hh.1 hh.2) (Ev.bind e1 (Ev.bind (toBolts pl bl hh.1 hh.2) (Ev.bind e2 ?_))))
    refine Ev.congr (fun k => by rw [if_pos rfl, bne_self_eq_false]) ?_
    refine Ev.step (fun k => by simp only [laws_FnExactCountSlideWays.j0]; rw [if_neg Bool.false_ne_true]) (Ev.bind (toBolts pl bl hh.1 hh.2) ?_)
    exact Ev.bind (eqBolts pl (bl.map cp) hh.1 hb2) (Ev.congr (fun k => if_pos rfl) (Ev.now _))
  obtain ⟨K, h⟩ := key
  exact ⟨K, h K (Nat.le_refl _)⟩
end Go.Proofs.Ytejkogiiocbmfaa.Pure
