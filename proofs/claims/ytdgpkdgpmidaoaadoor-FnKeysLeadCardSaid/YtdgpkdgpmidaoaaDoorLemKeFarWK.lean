/-
  The reference's search by keys, with its ways.
-/
import Derived.Test.YtdgpkdgpmidaoaaDoorLemKeFarK
namespace Go.Proofs.YtdgpkdgpmidaoaaDoor.Lem
open Go.RowKit Go.Proofs.YtdgpkdgpmidaoaaDoor.PK Go.Proofs.YtdgpkdgpmidaoaaDoorW.PrintWords Go.Proofs.YtdgpkdgpmidaoaaDoorW.PrintLast Go.Proofs.YtdgpkdgpmidaoaaDoorW.PrintMore Go.Proofs.YtdgpkdgpmidaoaaDoor.Ring Go.Proofs.YtdgpkdgpmidaoaaDoor.Bfs
set_option linter.unusedVariables false
set_option linter.unusedSimpArgs false

def addX (a b : Int) : Int := wrap64 (a + b)
def foundX (ks : List Stt) (s : Stt) : St Stt := run addX (stepK ks) (2 ^ ks.length) 0 (init s)
def WayN (n : Nat) (W : List Int) (st : St Stt) : Prop := W.length = 2 ^ n ∧ ∀ s, okN n s → W.getD (num s) 0 = st.ways s
theorem WayN.set {n : Nat} {W : List Int} {st : St Stt} (h : WayN n W st) {t : Stt} (ht : okN n t) (v : Int) (q : List Stt) (f : Stt → Option Nat) : WayN n (W.set (num t) v) ⟨q, f, Bfs.upd st.ways t v⟩ := by
  refine ⟨by rw [List.length_set]; exact h.1, fun s hs => ?_⟩
  rw [getD_set (by rw [h.1]; exact numN_lt ht)]
  simp only [Bfs.upd]
  by_cases e : s = t
  · rw [if_pos e, if_pos (by rw [e])]
  · rw [if_neg e, if_neg (fun h => e (numN_inj hs ht h.symm))]
    exact h.2 s hs
theorem relax_old {add : Int → Int → Int} {u t : Stt} {st : St Stt} {v : Nat} (hft : st.far t = some v) : relax add u st t = if some v = some (Bfs.d st u + 1) then ⟨st.q, st.far, Bfs.upd st.ways t (add (st.ways t) (st.ways u))⟩ else st := by
  unfold relax
  simp only [hft, Option.isNone_some, Bool.false_eq_true, if_false]
theorem kfw_l2 {ks : List Stt} (hk : keysOk ks = true) (s0 : Stt) (i : Nat) (u : Stt) (du : Nat) : ∀ (d j : Nat) (st : St Stt) (p : List Stt) (F W : List Int),
    j + d = (mvK ks u ks.length).length → InvIn (stepK ks) s0 st i u p → GoodS (okN ks.length) st → FarN ks.length F st → WayN ks.length W st → Bfs.d st u = du →
    ∃ F' W', FarN ks.length F' (((stepK ks u).drop j).foldl (relax addX u) st) ∧ WayN ks.length W' (((stepK ks u).drop j).foldl (relax addX u) st) ∧ ∀ R, Ev (fun k => spec_keFar.l1 k (ks.map tx) F' W' ((((stepK ks u).drop j).foldl (relax addX u) st).q.map tx) ((i + 1 : Nat) : Int)) R →
      Ev (fun k => spec_keFar.l2 k (ks.map tx) F W (st.q.map tx) (i : Int) ((num u : Nat) : Int) (ints (mvK ks u ks.length)) ((mvK ks u ks.length).length : Int) (j : Int)) R := by
  obtain ⟨⟨kl1, kl2⟩, k3⟩ := keys_parts hk
  have hp1 := pow10 kl2
  intro d
  induction d with
  | zero =>
    intro j st p F W hj I G hF hW hdu
    have hil : i < 1025 := by have h1 := G.len (setupK hk) I.nodup; have h2 := I.lt; omega
    have hd0 : (stepK ks u).drop j = [] := List.drop_eq_nil_of_le (by rw [step_lenK]; omega)
    rw [hd0]
    refine ⟨F, W, hF, hW, fun R h => ?_⟩
    refine Ev.step (fun k => ?_) h
    simp only [spec_keFar.l2]
    rw [if_neg (show ¬ (j : Int) < ((mvK ks u ks.length).length : Int) from fun h => by have := Int.ofNat_lt.1 h; omega), succ64 (by omega)]
    rfl
  | succ d ih =>
    intro j st p F W hj I G hF hW hdu
    have hjl : j < (mvK ks u ks.length).length := by omega
    obtain ⟨m, hm⟩ : ∃ m, (mvK ks u ks.length)[j] = m := ⟨_, rfl⟩
    have hmm := mvK_lt (hm ▸ List.getElem_mem hjl)
    obtain ⟨t, ht⟩ : ∃ t, flipAt u m = t := ⟨_, rfl⟩
    have hdr : (stepK ks u).drop j = t :: (stepK ks u).drop (j + 1) := by
      have hjs : j < (stepK ks u).length := by rw [step_lenK]; exact hjl
      rw [List.drop_eq_getElem_cons hjs, stepK_get hjl hjs, hm, ht]
    have htm : t ∈ stepK ks u := ht ▸ List.mem_map_of_mem (hm ▸ List.getElem_mem hjl)
    have huq : u ∈ st.q := List.mem_of_getElem? I.at_
    have hou := G.ok u huq
    have hot : okN ks.length t := ht ▸ okN_flip hou m
    have huf := (I.iff u).2 huq
    have hlen := G.len (setupK hk) I.nodup
    have hil : i < 1025 := by have h2 := I.lt; omega
    have hqlt : (i : Int) < ((st.q.map tx).length : Int) := by rw [List.length_map]; exact Int.ofNat_lt.2 I.lt
    have hq43 : (st.q.map tx).length < 8796093022208 := by rw [List.length_map]; omega
    have hj62 : j < 4611686018427387904 := by have := mvK_len ks u ks.length; omega
    have hdl := G.d huf
    have hdu62 : du < 4611686018427387904 := by rw [hdu] at hdl; omega
    have hqi : st.q[i]'I.lt = u := by have := I.at_; rw [List.getElem?_eq_getElem I.lt] at this; exact Option.some.inj this
    have hrd : rdOf ByteArray.empty (st.q.map tx) (i : Int) = tx u := by rw [rdM I.lt, hqi]
    have hmv : spec_riMove.f (tx u) ((m : Nat) : Int) = some (tx t) := by rw [← ht]; exact riMove u (by have := hou.1; omega) hou.2 m (by rw [hou.1]; exact hmm.1)
    have hnum := riNum kl2 hot
    have hnt : ((num t : Nat) : Int) < (F.length : Int) := by rw [hF.1]; exact Int.ofNat_lt.2 (numN_lt hot)
    have hnu : ((num u : Nat) : Int) < (F.length : Int) := by rw [hF.1]; exact Int.ofNat_lt.2 (numN_lt hou)
    have hwt : ((num t : Nat) : Int) < (W.length : Int) := by rw [hW.1]; exact Int.ofNat_lt.2 (numN_lt hot)
    have hwu : ((num u : Nat) : Int) < (W.length : Int) := by rw [hW.1]; exact Int.ofNat_lt.2 (numN_lt hou)
    have hsj : wrap64 ((j : Int) + 1) = ((j + 1 : Nat) : Int) := succ64 hj62
    have hsd : wrap64 ((du : Int) + 1) = ((du + 1 : Nat) : Int) := succ64 hdu62
    obtain ⟨v0, hv0⟩ := Option.isSome_iff_exists.1 huf
    have hvd : v0 = du := by rw [← hdu]; simp [Bfs.d, hv0]
    rw [hvd] at hv0
    have hrF : rd F ((num t : Nat) : Int) = fz (st.far t) := hF.2 t hot
    have hrU : rd F ((num u : Nat) : Int) = (du : Int) := by
      have h := hF.2 u hou
      rw [hv0] at h
      exact h
    have hrWt : rd W ((num t : Nat) : Int) = st.ways t := hW.2 t hot
    have hrWu : rd W ((num u : Nat) : Int) = st.ways u := hW.2 u hou
    have I2 := I.relaxed addX htm
    have G2 := G.relaxed addX huf hot
    have hJ : (j : Int) < ((mvK ks u ks.length).length : Int) := Int.ofNat_lt.2 hjl
    have hJ2 : (j : Int) < ((ints (mvK ks u ks.length)).length : Int) := by rw [ints_len]; exact hJ
    rw [hdr]
    simp only [List.foldl_cons]
    cases hft : st.far t with
    | none =>
      have hut : u ≠ t := fun e => by rw [e, hft] at huf; cases huf
      have hdu2 : Bfs.d (relax addX u st t) u = du := by rw [relax_new hft hut, d_upd_ne hut]; exact hdu
      rw [relax_new hft hut] at I2 G2 hdu2 ⊢
      have hF2 := FarN.set hF hot (Bfs.d st u + 1) (st.q ++ [t]) (Bfs.upd st.ways t (addX (st.ways t) (st.ways u)))
      have hy1 : rd (F.set (num t) ((du + 1 : Nat) : Int)) ((num t : Nat) : Int) = ((du + 1 : Nat) : Int) := by
        rw [rdDk, getD_set (by rw [hF.1]; exact numN_lt hot), if_pos rfl]
      have hy2 : rd (F.set (num t) ((du + 1 : Nat) : Int)) ((num u : Nat) : Int) = (du : Int) := by
        rw [rdDk, getD_set (by rw [hF.1]; exact numN_lt hot), if_neg (fun e => hut (numN_inj hou hot e.symm))]
        exact hrU
      have hW2 := WayN.set hW hot (addX (st.ways t) (st.ways u)) (st.q ++ [t]) (Bfs.upd st.far t (some (Bfs.d st u + 1)))
      obtain ⟨F', W', hF', hW', K⟩ := ih (j + 1) _ _ _ (W.set (num t) (wrap64 (rd W ((num t : Nat) : Int) + rd W ((num u : Nat) : Int)))) (ar_j hj) I2 G2 hF2 (by rw [hrWt, hrWu]; exact hW2) hdu2
      refine ⟨F', W', hF', hW', fun R h => ?_⟩
      have e3 := K R h
      rw [List.map_append, hdu] at e3
      refine ev_num hnum e3 (fun k hk => ?_)
      simp only [spec_keFar.l2]
      rw [if_pos hJ, if_pos (Int.natCast_nonneg _), if_pos hJ2, if_pos (Int.natCast_nonneg _), if_pos hqlt, hrd, rd_ints hjl, hm, hmv, obind, hk, obind, if_pos (Int.natCast_nonneg _), if_pos hnt, hrF, hft, if_pos (by decide), if_pos (Int.natCast_nonneg _), if_pos hnu, obind, if_pos hq43, obind, hrU, hsd, Int.toNat_natCast, hy1, hy2, hsd, if_pos rfl, if_pos hwt, if_pos hwu, hsj]
      rfl
    | some v =>
      have hneg : ¬ fz (some v) < 0 := by rw [fz_neg]; simp
      have hF2 : FarN ks.length F (relax addX u st t) := ⟨hF.1, fun s hs => by rw [hF.2 s hs, (relax_q_far addX u st t).2, hft]; rfl⟩
      have hq2 : (relax addX u st t).q = st.q := by rw [(relax_q_far addX u st t).1, hft]; rfl
      have hdu2 : Bfs.d (relax addX u st t) u = du := by unfold Bfs.d; rw [(relax_q_far addX u st t).2, hft]; exact hdu
      by_cases hc : fz (some v) = ((du + 1 : Nat) : Int)
      · have hW2 : WayN ks.length (W.set (num t) (wrap64 (rd W ((num t : Nat) : Int) + rd W ((num u : Nat) : Int)))) (relax addX u st t) := by
          have hv : v = du + 1 := Int.ofNat.inj hc
          rw [relax_old hft, if_pos (by rw [hdu, hv]), hrWt, hrWu]
          exact WayN.set hW hot (addX (st.ways t) (st.ways u)) st.q st.far
        obtain ⟨F', W', hF', hW', K⟩ := ih (j + 1) _ _ _ (W.set (num t) (wrap64 (rd W ((num t : Nat) : Int) + rd W ((num u : Nat) : Int)))) (ar_j hj) I2 G2 hF2 hW2 hdu2
        refine ⟨F', W', hF', hW', fun R h => ?_⟩
        have e3 := K R h
        rw [hq2] at e3
        refine ev_num hnum e3 (fun k hk => ?_)
        simp only [spec_keFar.l2]
        rw [if_pos hJ, if_pos (Int.natCast_nonneg _), if_pos hJ2, if_pos (Int.natCast_nonneg _), if_pos hqlt, hrd, rd_ints hjl, hm, hmv, obind, hk, obind, if_pos (Int.natCast_nonneg _), if_pos hnt, hrF, hft, if_neg hneg, if_pos (Int.natCast_nonneg _), if_pos hnu, hrU, hsd, if_pos hc, if_pos hwt, if_pos hwu, hsj, Int.toNat_natCast]
      · have hW2 : WayN ks.length W (relax addX u st t) := by
          rw [relax_old hft, if_neg (fun h => hc (by rw [hdu] at h; rw [Option.some.inj h]; rfl))]
          exact hW
        obtain ⟨F', W', hF', hW', K⟩ := ih (j + 1) _ _ _ W (ar_j hj) I2 G2 hF2 hW2 hdu2
        refine ⟨F', W', hF', hW', fun R h => ?_⟩
        have e3 := K R h
        rw [hq2] at e3
        refine ev_num hnum e3 (fun k hk => ?_)
        simp only [spec_keFar.l2]
        rw [if_pos hJ, if_pos (Int.natCast_nonneg _), if_pos hJ2, if_pos (Int.natCast_nonneg _), if_pos hqlt, hrd, rd_ints hjl, hm, hmv, obind, hk, obind, if_pos (Int.natCast_nonneg _), if_pos hnt, hrF, hft, if_neg hneg, if_pos (Int.natCast_nonneg _), if_pos hnu, hrU, hsd, if_neg hc, hsj]
theorem kfw_l1 {ks : List Stt} (hk : keysOk ks = true) (s0 : Stt) : ∀ (m i : Nat) (st : St Stt) (F W : List Int), Inv (stepK ks) s0 st i → GoodS (okN ks.length) st → FarN ks.length F st → WayN ks.length W st → 2 ^ ks.length ≤ i + m →
    ∃ F' W', FarN ks.length F' (run addX (stepK ks) m i st) ∧ WayN ks.length W' (run addX (stepK ks) m i st) ∧ Ev (fun k => spec_keFar.l1 k (ks.map tx) F W (st.q.map tx) (i : Int)) (F', W') := by
  obtain ⟨⟨kl1, kl2⟩, k3⟩ := keys_parts hk
  have hp1 := pow10 kl2
  intro m
  induction m with
  | zero =>
    intro i st F W I G hF hW hN
    have h1 := G.len (setupK hk) I.nodup
    refine ⟨F, W, hF, hW, Ev.step (f := fun _ => some (F, W)) (fun k => ?_) (Ev.now _)⟩
    simp only [spec_keFar.l1]
    rw [List.length_map, if_neg (fun h => by have := Int.ofNat_lt.1 h; omega)]
  | succ m ih =>
    intro i st F W I G hF hW hN
    by_cases hi : i < st.q.length
    · obtain ⟨u, hu⟩ : ∃ u, st.q[i] = u := ⟨_, rfl⟩
      have hin := I.enter hi
      rw [hu] at hin
      have hou : okN ks.length u := hu ▸ G.ok _ (List.getElem_mem hi)
      have I2 := I.process addX hi
      rw [hu] at I2
      have G2 : GoodS (okN ks.length) (process addX (stepK ks) st u) := GoodS.foldl addX (stepK ks u) st [] hin G (fun t ht => ht) ((setupK hk).next u hou)
      obtain ⟨F1, W1, hF1, hW1, K⟩ := kfw_l2 hk s0 i u (Bfs.d st u) (mvK ks u ks.length).length 0 st [] F W (Nat.zero_add _) hin G hF hW rfl
      rw [List.drop_zero] at hF1 hW1 K
      obtain ⟨F', W', hF', hW', e⟩ := ih (i + 1) _ F1 W1 I2 G2 hF1 hW1 (by omega)
      have e2 := K _ e
      have hrun : run addX (stepK ks) (m + 1) i st = run addX (stepK ks) m (i + 1) (process addX (stepK ks) st u) := by
        conv => lhs; unfold run
        rw [dif_pos hi, hu]
      rw [hrun]
      refine ⟨F', W', hF', hW', ?_⟩
      obtain ⟨K1, g1⟩ := riNum kl2 hou
      obtain ⟨K2, g2⟩ := keMoves hk hou
      obtain ⟨K3, g3⟩ := e2
      have g1 : ∀ k, K1 ≤ k → spec_riNumber.f k (tx u) = some ((num u : Nat) : Int) := g1
      have g2 : ∀ k, K2 ≤ k → spec_keMoves.f k (ks.map tx) (tx u) = some (ints (mvK ks u ks.length)) := g2
      refine ⟨max K1 (max K2 K3) + 1, fun n hn => ?_⟩
      obtain ⟨k, rfl, k1, k2, k3⟩ := max3 hn
      simp only [spec_keFar.l1]
      rw [if_pos (show (i : Int) < ((st.q.map tx).length : Int) by rw [List.length_map]; exact Int.ofNat_lt.2 hi), if_pos (Int.natCast_nonneg _), rdM hi, hu, g1 k k1, obind, g2 k k2, obind, ints_len]
      exact g3 k k3
    · have hrun : run addX (stepK ks) (m + 1) i st = st := by
        conv => lhs; unfold run
        rw [dif_neg hi]
      rw [hrun]
      refine ⟨F, W, hF, hW, Ev.step (f := fun _ => some (F, W)) (fun k => ?_) (Ev.now _)⟩
      simp only [spec_keFar.l1]
      rw [List.length_map, if_neg (fun h => hi (Int.ofNat_lt.1 h))]
/-- What the reference's search finds. -/
theorem keFarW {ks : List Stt} (hk : keysOk ks = true) {s : Stt} (hs : okN ks.length s) : ∃ F W, FarN ks.length F (foundX ks s) ∧ WayN ks.length W (foundX ks s) ∧ Ev (fun k => spec_keFar.f k (ks.map tx) (tx s)) (F, W) := by
  obtain ⟨⟨kl1, kl2⟩, k3⟩ := keys_parts hk
  have hp := pow10 kl2
  have hlt := numN_lt hs
  have hF0 : FarN ks.length ((List.replicate (2 ^ ks.length) (-1 : Int)).set (num s) 0) (init s) := by
    refine ⟨by rw [List.length_set, List.length_replicate], fun t ht => ?_⟩
    rw [getD_set (by rw [List.length_replicate]; exact hlt)]
    by_cases e : t = s
    · rw [if_pos (by rw [e])]
      simp [init, e, fz]
    · rw [if_neg (fun h => e (numN_inj ht hs h.symm))]
      have hl := numN_lt ht
      rw [List.getD_eq_getElem?_getD, List.getElem?_replicate, if_pos hl]
      simp [init, e, fz]
  have hW0 : WayN ks.length ((List.replicate (2 ^ ks.length) (0 : Int)).set (num s) 1) (init s) := by
    refine ⟨by rw [List.length_set, List.length_replicate], fun t ht => ?_⟩
    rw [getD_set (by rw [List.length_replicate]; exact hlt)]
    by_cases e : t = s
    · rw [if_pos (by rw [e])]
      simp [init, e]
    · rw [if_neg (fun h => e (numN_inj ht hs h.symm))]
      have hl := numN_lt ht
      rw [List.getD_eq_getElem?_getD, List.getElem?_replicate, if_pos hl]
      simp [init, e]
  obtain ⟨F, W, hF, hW, e⟩ := kfw_l1 hk s (2 ^ ks.length) 0 (init s) _ ((List.replicate (2 ^ ks.length) (0 : Int)).set (num s) 1) (Inv.start _ _) (GoodS.start hs) hF0 hW0 (by omega)
  refine ⟨F, W, hF, hW, ?_⟩
  have e0 := kf_l0 hk hs _ e (2 ^ ks.length) 0 (List.replicate (2 ^ ks.length) 0) (Nat.zero_add _) (List.length_replicate ..) rfl
  unfold spec_keFar.f
  have hsh : shl .i64 1 ((tx s).size : Int) = ((2 ^ ks.length : Nat) : Int) := by rw [tx_size, hs.1]; exact shl_one ks.length (by omega)
  refine Ev.congr (fun k => ?_) e0
  rw [hsh, if_pos (Int.natCast_nonneg _), Int.toNat_natCast, if_pos (by omega), obind, List.length_replicate]
  rfl
end Go.Proofs.YtdgpkdgpmidaoaaDoor.Lem
