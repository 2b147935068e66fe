/-
  The longest by keys: the law holds.
-/
import Derived.Test.YtjlemddnkpejmaaDoorLemLong2K
namespace Go.Proofs.YtjlemddnkpejmaaDoor.Lem
open Go.RowKit Go.Proofs.YtjlemddnkpejmaaDoor.PK Go.Proofs.YtjlemddnkpejmaaDoorW.PrintWords Go.Proofs.YtjlemddnkpejmaaDoorW.PrintLast Go.Proofs.YtjlemddnkpejmaaDoorW.PrintMore Go.Proofs.YtjlemddnkpejmaaDoor.Ring Go.Proofs.YtjlemddnkpejmaaDoor.Bfs
set_option linter.unusedVariables false
set_option linter.unusedSimpArgs false

def gz : Option Nat → Int
  | none => 0
  | some n => ((n + 1 : Nat) : Int)
def FarB (n : Nat) (F : List Int) (st : St Stt) : Prop := F.length = 2 ^ n ∧ ∀ s, okN n s → F.getD (bv s) 0 = gz (st.far s)
theorem FarB.set {n : Nat} {F : List Int} {st : St Stt} (h : FarB n F st) {t : Stt} (ht : okN n t) (v : Nat) (q : List Stt) (w : Stt → Int) : FarB n (F.set (bv t) ((v + 1 : Nat) : Int)) ⟨q, Bfs.upd st.far t (some v), w⟩ := by
  refine ⟨by rw [List.length_set]; exact h.1, fun s hs => ?_⟩
  rw [getD_set (by rw [h.1]; exact bvN_lt ht)]
  by_cases e : s = t
  · rw [if_pos (by rw [e])]
    simp [Bfs.upd, e, gz]
  · rw [if_neg (fun h => e (bvN_inj hs ht h.symm)), h.2 s hs]
    simp [Bfs.upd, e]
theorem lkR_len2 (ks : List Stt) (s : Stt) : (lkR ks s).length = (stepK ks s).length := by unfold lkR; rw [List.length_map]
theorem lg_l1 {ks : List Stt} (hk : keysOk ks = true) (rows : List (List Int)) (s0 : Stt) (i : Nat) (u : Stt) (du : Nat) (R : Int) : ∀ (d j : Nat) (st : St Stt) (p : List Stt) (F : List Int),
    j + d = (stepK ks u).length → InvIn (stepK ks) s0 st i u p → GoodS (okN ks.length) st → FarB ks.length F st → Bfs.d st u = du →
    (∀ F', FarB ks.length F' (((stepK ks u).drop j).foldl (relax addC u) st) → Bfs.d (((stepK ks u).drop j).foldl (relax addC u) st) u = du → Ev (fun k => impl_longest.l0 k rows F' ((du + 1 : Nat) : Int) (((((stepK ks u).drop j).foldl (relax addC u) st).q.drop (i + 1)).map bi)) R) →
    Ev (fun k => impl_longest.l1 k rows F ((du + 1 : Nat) : Int) ((st.q.drop i).map bi) (lkR ks u) ((lkR ks u).length : Int) (j : Int)) R := by
  obtain ⟨⟨kl1, kl2⟩, k3⟩ := keys_parts hk
  have hp1 := pow10 kl2
  intro d
  induction d with
  | zero =>
    intro j st p F hj I G hF hdu H
    have hd0 : (stepK ks u).drop j = [] := List.drop_eq_nil_of_le (by omega)
    rw [hd0] at H
    have hlt := I.lt
    have e : ((st.q.drop i).map bi).drop (1 : Int).toNat = (st.q.drop (i + 1)).map bi := by
      rw [show (1 : Int).toNat = 1 from rfl, ← List.map_drop, List.drop_drop]
    have h := H F hF hdu
    simp only [List.foldl_nil] at h
    refine Ev.step (fun k => ?_) h
    simp only [impl_longest.l1]
    rw [if_neg (show ¬ (j : Int) < ((lkR ks u).length : Int) by rw [lkR_len2]; omega), if_pos (show (1 : Int) ≤ (((st.q.drop i).map bi).length : Int) by rw [List.length_map, List.length_drop]; omega), e]
  | succ d ih =>
    intro j st p F hj I G hF hdu H
    have hjl : j < (stepK ks u).length := by omega
    have hjr : j < (lkR ks u).length := by rw [lkR_len2]; exact hjl
    obtain ⟨t, ht⟩ : ∃ t, (stepK ks u)[j] = t := ⟨_, rfl⟩
    have hdr : (stepK ks u).drop j = t :: (stepK ks u).drop (j + 1) := by rw [List.drop_eq_getElem_cons hjl, ht]
    have htm : t ∈ stepK ks u := ht ▸ List.getElem_mem hjl
    have huq : u ∈ st.q := List.mem_of_getElem? I.at_
    have hou := G.ok u huq
    have hot : okN ks.length t := (setupK hk).next u hou t htm
    have huf := (I.iff u).2 huq
    have hlen := G.len (setupK hk) I.nodup
    have hlt := I.lt
    have hdl := G.d huf
    have hml := mvK_len ks u ks.length
    have hsl := step_lenK ks u
    have hrd : rd (lkR ks u) (j : Int) = ((bv t : Nat) : Int) := by
      rw [rd_get hjr]
      have h2 : (lkR ks u)[j] = bi ((stepK ks u)[j]) := List.getElem_map _
      rw [h2, ht]
      rfl
    have hF0 : rd F ((bv t : Nat) : Int) = gz (st.far t) := hF.2 t hot
    have c1 : (j : Int) < ((lkR ks u).length : Int) := Int.ofNat_lt.2 hjr
    have c2 : ((bv t : Nat) : Int) < (F.length : Int) := by rw [hF.1]; exact Int.ofNat_lt.2 (bvN_lt hot)
    have c3 : ((st.q.drop i).map bi).length < 17592186044416 := by rw [List.length_map, List.length_drop]; omega
    have I2 := I.relaxed addC htm
    have G2 := G.relaxed addC huf hot
    rw [hdr] at H
    simp only [List.foldl_cons] at H
    cases hft : st.far t with
    | none =>
      have hut : u ≠ t := fun e => by rw [e, hft] at huf; cases huf
      have hdu2 : Bfs.d (relax addC u st t) u = du := by rw [relax_new hft hut, d_upd_ne hut]; exact hdu
      rw [relax_new hft hut] at I2 G2 hdu2 H
      have hF2 := FarB.set hF hot (Bfs.d st u + 1) (st.q ++ [t]) (Bfs.upd st.ways t (addC (st.ways t) (st.ways u)))
      have h := ih (j + 1) _ _ _ (by omega) I2 G2 hF2 hdu2 H
      have eq : ((st.q ++ [t]).drop i).map bi = (st.q.drop i).map bi ++ [((bv t : Nat) : Int)] := by
        rw [List.drop_append_of_le_length (Nat.le_of_lt hlt), List.map_append]
        rfl
      simp only [] at h
      rw [eq, hdu] at h
      have es : wrap64 (((du + 1 : Nat) : Int) + 1) = ((du + 1 + 1 : Nat) : Int) := succ64 (by omega)
      refine Ev.step (fun k => ?_) h
      simp only [impl_longest.l1]
      rw [if_pos c1, if_pos (Int.natCast_nonneg _), if_pos c1, hrd, if_pos (Int.natCast_nonneg _), if_pos c2, hF0, hft, if_pos (show gz none = 0 from rfl), if_pos c3, Int.toNat_natCast, es, succ64 (by omega)]
    | some v =>
      have hne : ¬ gz (some v) = 0 := by
        show ¬ ((v + 1 : Nat) : Int) = 0
        omega
      have hF2 : FarB ks.length F (relax addC u st t) := ⟨hF.1, fun s hs => by rw [hF.2 s hs, (relax_q_far addC u st t).2, hft]; rfl⟩
      have hq2 : (relax addC u st t).q = st.q := by rw [(relax_q_far addC u st t).1, hft]; rfl
      have hdu2 : Bfs.d (relax addC u st t) u = du := by unfold Bfs.d; rw [(relax_q_far addC u st t).2, hft]; exact hdu
      have h := ih (j + 1) _ _ _ (by omega) I2 G2 hF2 hdu2 H
      rw [hq2] at h
      refine Ev.step (fun k => ?_) h
      simp only [impl_longest.l1]
      rw [if_pos c1, if_pos (Int.natCast_nonneg _), if_pos c1, hrd, if_pos (Int.natCast_nonneg _), if_pos c2, hF0, hft, if_neg hne, succ64 (by omega)]
def lastD (st : St Stt) : Nat := Bfs.d st (st.q.getD (st.q.length - 1) [])
theorem lg_l0 {ks : List Stt} (hk : keysOk ks = true) (rows : List (List Int)) (hrl : rows.length = 2 ^ ks.length) (hrw : ∀ s, okN ks.length s → rows.getD (bv s) [] = lkR ks s) (s0 : Stt) : ∀ (m i : Nat) (st : St Stt) (F : List Int) (x6 : Int), Inv (stepK ks) s0 st i → GoodS (okN ks.length) st → FarB ks.length F st → 2 ^ ks.length ≤ i + m →
    (0 < i → x6 = ((Bfs.d st (st.q.getD (i - 1) []) + 1 : Nat) : Int)) →
    Ev (fun k => impl_longest.l0 k rows F x6 ((st.q.drop i).map bi)) ((lastD (run addC (stepK ks) m i st) : Nat) : Int) := by
  obtain ⟨⟨kl1, kl2⟩, k3⟩ := keys_parts hk
  have hp1 := pow10 kl2
  have fin : ∀ (i : Nat) (st : St Stt) (F : List Int) (x6 : Int), Inv (stepK ks) s0 st i → GoodS (okN ks.length) st → ¬ i < st.q.length → (0 < i → x6 = ((Bfs.d st (st.q.getD (i - 1) []) + 1 : Nat) : Int)) →
      Ev (fun k => impl_longest.l0 k rows F x6 ((st.q.drop i).map bi)) ((lastD st : Nat) : Int) := by
    intro i st F x6 I G hi hx
    have hle := I.le
    have hpos := I.pos
    have hlen := G.len (setupK hk) I.nodup
    obtain rfl : i = st.q.length := by omega
    have hx6 := hx hpos
    have hm : st.q.getD (st.q.length - 1) [] ∈ st.q := by
      rw [List.getD_eq_getElem?_getD, List.getElem?_eq_getElem (show st.q.length - 1 < st.q.length by omega)]
      exact List.getElem_mem _
    have hb := G.d ((I.iff _).2 hm)
    rw [List.drop_length]
    refine Ev.step (f := fun _ => some ((lastD st : Nat) : Int)) (fun k => ?_) (Ev.now _)
    simp only [impl_longest.l0]
    rw [if_neg (show ¬ ((([] : List Stt).map bi).length : Int) > 0 by decide), hx6]
    congr 1
    unfold lastD
    rw [w64 (by omega) (by omega)]
    omega
  intro m
  induction m with
  | zero =>
    intro i st F x6 I G hF hN hx
    have h1 := G.len (setupK hk) I.nodup
    exact fin i st F x6 I G (by omega) hx
  | succ m ih =>
    intro i st F x6 I G hF hN hx
    by_cases hi : i < st.q.length
    · obtain ⟨u, hu⟩ : ∃ u, st.q[i] = u := ⟨_, rfl⟩
      have hin := I.enter hi
      rw [hu] at hin
      have hou : okN ks.length u := hu ▸ G.ok _ (List.getElem_mem hi)
      have I2 := I.process addC hi
      rw [hu] at I2
      have G2 : GoodS (okN ks.length) (process addC (stepK ks) st u) := GoodS.foldl addC (stepK ks u) st [] hin G (fun t ht => ht) ((setupK hk).next u hou)
      have hIn2 : InvIn (stepK ks) s0 (process addC (stepK ks) st u) i u ([] ++ stepK ks u) := InvIn.foldl addC (stepK ks u) st [] hin (fun t ht => ht)
      have hrun : run addC (stepK ks) (m + 1) i st = run addC (stepK ks) m (i + 1) (process addC (stepK ks) st u) := by
        conv => lhs; unfold run
        rw [dif_pos hi, hu]
      rw [hrun]
      have huf := (hin.iff u).2 (List.mem_of_getElem? hin.at_)
      obtain ⟨du, hdu⟩ := Option.isSome_iff_exists.1 huf
      have hd : Bfs.d st u = du := by simp [Bfs.d, hdu]
      have h := lg_l1 hk rows s0 i u du ((lastD (run addC (stepK ks) m (i + 1) (process addC (stepK ks) st u)) : Nat) : Int) (stepK ks u).length 0 st [] F (Nat.zero_add _) hin G hF hd (fun F' hF' hd' => by
        rw [List.drop_zero] at hF' hd' ⊢
        refine ih (i + 1) _ F' _ I2 G2 hF' (by omega) (fun _ => ?_)
        have e : (process addC (stepK ks) st u).q.getD (i + 1 - 1) [] = u := by
          rw [Nat.add_sub_cancel, List.getD_eq_getElem?_getD, hIn2.at_]
          rfl
        have e2 : Bfs.d (process addC (stepK ks) st u) u = du := hd'
        show ((du + 1 : Nat) : Int) = ((Bfs.d (process addC (stepK ks) st u) ((process addC (stepK ks) st u).q.getD (i + 1 - 1) []) + 1 : Nat) : Int)
        rw [e, e2])
      have hll : (st.q.drop i).map bi = ((bv u : Nat) : Int) :: (st.q.drop (i + 1)).map bi := by
        rw [List.drop_eq_getElem_cons hi, hu]
        rfl
      have e0 : rd ((st.q.drop i).map bi) 0 = ((bv u : Nat) : Int) := by rw [hll]; rfl
      have c0 : ((((st.q.drop i).map bi).length : Nat) : Int) > 0 := by rw [hll, List.length_cons]; omega
      have c1 : ((bv u : Nat) : Int) < (F.length : Int) := by rw [hF.1]; exact Int.ofNat_lt.2 (bvN_lt hou)
      have c2 : ((bv u : Nat) : Int) < (rows.length : Int) := by rw [hrl]; exact Int.ofNat_lt.2 (bvN_lt hou)
      have eF : rd F ((bv u : Nat) : Int) = ((du + 1 : Nat) : Int) := by
        have h := hF.2 u hou
        rw [hdu] at h
        exact h
      have eR : rd_L2 rows ((bv u : Nat) : Int) = lkR ks u := hrw u hou
      refine Ev.step (fun k => ?_) h
      simp only [impl_longest.l0]
      rw [if_pos c0, if_pos c0, e0, if_pos (Int.natCast_nonneg _), if_pos c1, if_pos c2, eF, eR]
      rfl
    · have hrun : run addC (stepK ks) (m + 1) i st = st := by
        conv => lhs; unfold run
        rw [dif_neg hi]
      rw [hrun]
      exact fin i st F x6 I G hi hx
def TK (ks : List Stt) (s : Stt) : Nat := lastD (foundK ks s)
theorem longest {ks : List Stt} (hk : keysOk ks = true) {s : Stt} (hs : okN ks.length s) : Ev (fun k => impl_longest.f k (rwK ks (tsK ks.length)) ((bv s : Nat) : Int)) ((TK ks s : Nat) : Int) := by
  obtain ⟨⟨kl1, kl2⟩, k3⟩ := keys_parts hk
  have hp := pow10 kl2
  have hb := bvN_lt hs
  have hrl := rwK_len ks (tsK ks.length)
  have hF0 : FarB ks.length ((List.replicate (2 ^ ks.length) (0 : Int)).set (bv s) 1) (init s) := by
    refine ⟨by rw [List.length_set, List.length_replicate], fun t ht => ?_⟩
    rw [getD_set (by rw [List.length_replicate]; exact hb)]
    by_cases e : t = s
    · rw [if_pos (by rw [e])]
      simp [init, e, gz]
    · rw [if_neg (fun h => e (bvN_inj ht hs h.symm))]
      rw [List.getD_eq_getElem?_getD, List.getElem?_replicate, if_pos (bvN_lt ht)]
      simp [init, e, gz]
  have h := lg_l0 hk (rwK ks (tsK ks.length)) hrl (fun t ht => by rw [rwK_get ht _ (tsK_ok ks.length), if_pos (tsK_mem _ _ ht)]) s (2 ^ ks.length) 0 (init s) _ 1 (Inv.start _ _) (GoodS.start hs) hF0 (by omega) (fun h => absurd h (Nat.lt_irrefl 0))
  unfold impl_longest.f
  refine Ev.congr (fun k => ?_) h
  rw [hrl, if_pos (Int.natCast_nonneg _), Int.toNat_natCast, if_pos (by omega), obind, if_pos (Int.natCast_nonneg _), if_pos (by rw [List.length_replicate]; exact Int.ofNat_lt.2 hb), Int.toNat_natCast]
  rfl
theorem TK_facts {ks : List Stt} (hk : keysOk ks = true) {s : Stt} (hs : okN ks.length s) : (∀ t n, (foundK ks s).far t = some n → n ≤ TK ks s) ∧ TK ks s < 1025 ∧ ∃ t, okN ks.length t ∧ (foundK ks s).far t = some (TK ks s) := by
  obtain ⟨⟨kl1, kl2⟩, k3⟩ := keys_parts hk
  have hp := pow10 kl2
  obtain ⟨I, G⟩ := found_good (setupK hk) hs
  have hlen := G.len (setupK hk) I.nodup
  have hpos := I.pos
  have hl : (found (stepK ks) (2 ^ ks.length) s).q.length - 1 < (found (stepK ks) (2 ^ ks.length) s).q.length := by omega
  have he : (found (stepK ks) (2 ^ ks.length) s).q.getD ((found (stepK ks) (2 ^ ks.length) s).q.length - 1) [] = (found (stepK ks) (2 ^ ks.length) s).q[(found (stepK ks) (2 ^ ks.length) s).q.length - 1] := by
    rw [List.getD_eq_getElem?_getD, List.getElem?_eq_getElem hl]
    rfl
  have hT : TK ks s = Bfs.d (found (stepK ks) (2 ^ ks.length) s) ((found (stepK ks) (2 ^ ks.length) s).q[(found (stepK ks) (2 ^ ks.length) s).q.length - 1]) := by
    rw [← he]
    rfl
  have hmem := List.getElem_mem hl
  have hsome := (I.iff _).2 hmem
  refine ⟨fun t n h => ?_, ?_, _, G.ok _ hmem, ?_⟩
  · have h' : (found (stepK ks) (2 ^ ks.length) s).far t = some n := h
    have hq := (I.iff t).1 (by rw [h']; rfl)
    obtain ⟨j, hj, e⟩ := List.getElem_of_mem hq
    have hm := I.mono j _ hj hl (by omega)
    rw [← hT, e] at hm
    have hd : Bfs.d (found (stepK ks) (2 ^ ks.length) s) t = n := by simp [Bfs.d, h']
    omega
  · have := G.d hsome
    rw [← hT] at this
    omega
  · obtain ⟨v, hv⟩ := Option.isSome_iff_exists.1 hsome
    have hd : Bfs.d (found (stepK ks) (2 ^ ks.length) s) ((found (stepK ks) (2 ^ ks.length) s).q[(found (stepK ks) (2 ^ ks.length) s).q.length - 1]) = v := by simp [Bfs.d, hv]
    rw [hT, hd]
    exact hv
def upM (g : Nat → Nat) : Nat → Nat
  | 0 => 0
  | n + 1 => max (upM g n) (g n)
theorem upM_le (g : Nat → Nat) (c : Nat) : ∀ n, (∀ i, i < n → g i ≤ c) → upM g n ≤ c
  | 0, _ => Nat.zero_le _
  | n + 1, h => Nat.max_le.2 ⟨upM_le g c n (fun i hi => h i (by omega)), h n (by omega)⟩
theorem le_upM (g : Nat → Nat) : ∀ n i, i < n → g i ≤ upM g n
  | 0, i, h => absurd h (Nat.not_lt_zero i)
  | n + 1, i, h => by
    by_cases e : i = n
    · rw [e]; exact Nat.le_max_right _ _
    · exact Nat.le_trans (le_upM g n i (by omega)) (Nat.le_max_left _ _)
noncomputable def sB (n b : Nat) : Stt := if h : b < 2 ^ n then Classical.choose (bv_sur n b h) else []
theorem sB_spec {n b : Nat} (h : b < 2 ^ n) : okN n (sB n b) ∧ bv (sB n b) = b := by
  unfold sB
  rw [dif_pos h]
  exact Classical.choose_spec (bv_sur n b h)
theorem same_max (ks : List Stt) (n : Nat) : upM (fun i => TK ks (stOf n i)) (2 ^ n) = upM (fun b => TK ks (sB n b)) (2 ^ n) := by
  apply Nat.le_antisymm
  · refine upM_le _ _ _ (fun i hi => ?_)
    have ho : okN n (stOf n i) := ⟨stOf_length _ _, stOf_ok _ _⟩
    have hb := bvN_lt ho
    have hs := sB_spec hb
    have e : sB n (bv (stOf n i)) = stOf n i := bvN_inj hs.1 ho hs.2
    have h := le_upM (fun b => TK ks (sB n b)) (2 ^ n) (bv (stOf n i)) hb
    simp only [e] at h
    exact h
  · refine upM_le _ _ _ (fun b hb => ?_)
    have hs := sB_spec hb
    have hn := numN_lt hs.1
    have e : stOf n (num (sB n b)) = sB n b := by
      have := stOf_num (sB n b) hs.1.2
      rwa [hs.1.1] at this
    have h := le_upM (fun i => TK ks (stOf n i)) (2 ^ n) (num (sB n b)) hn
    simp only [e] at h
    exact h
theorem impl_max {ks : List Stt} (hk : keysOk ks = true) : Ev (fun k => impl_LongestByKeys.l0 k (rwK ks (tsK ks.length)) 0 ((2 ^ ks.length : Nat) : Int) 0) (((upM (fun b => TK ks (sB ks.length b)) (2 ^ ks.length) : Nat) : Int), true) := by
  obtain ⟨⟨kl1, kl2⟩, k3⟩ := keys_parts hk
  have hp := pow10 kl2
  have go : ∀ d i, i + d = 2 ^ ks.length → Ev (fun k => impl_LongestByKeys.l0 k (rwK ks (tsK ks.length)) ((upM (fun b => TK ks (sB ks.length b)) i : Nat) : Int) ((2 ^ ks.length : Nat) : Int) (i : Int)) (((upM (fun b => TK ks (sB ks.length b)) (2 ^ ks.length) : Nat) : Int), true) := by
    intro d
    induction d with
    | zero =>
      intro i hi
      obtain rfl : i = 2 ^ ks.length := by omega
      refine Ev.step (f := fun _ => some (((upM (fun b => TK ks (sB ks.length b)) (2 ^ ks.length) : Nat) : Int), true)) (fun k => ?_) (Ev.now _)
      simp only [impl_LongestByKeys.l0]
      rw [if_neg (Int.lt_irrefl _)]
    | succ d ih =>
      intro i hi
      have hil : i < 2 ^ ks.length := by omega
      have hs := sB_spec hil
      have hl := longest hk hs.1
      rw [hs.2] at hl
      have e : mx ((upM (fun b => TK ks (sB ks.length b)) i : Nat) : Int) ((TK ks (sB ks.length i) : Nat) : Int) = ((upM (fun b => TK ks (sB ks.length b)) (i + 1) : Nat) : Int) := by
        have e2 : upM (fun b => TK ks (sB ks.length b)) (i + 1) = max (upM (fun b => TK ks (sB ks.length b)) i) (TK ks (sB ks.length i)) := rfl
        rw [e2]
        unfold mx
        split <;> omega
      refine ev_num hl (ih (i + 1) (by omega)) (fun k hk' => ?_)
      have hk2 : impl_longest.f k (rwK ks (tsK ks.length)) (i : Int) = some ((TK ks (sB ks.length i) : Nat) : Int) := hk'
      simp only [impl_LongestByKeys.l0]
      rw [if_pos (Int.ofNat_lt.2 hil), hk2, obind, e, succ64 (by omega)]
  exact go (2 ^ ks.length) 0 (Nat.zero_add _)
theorem spec_l1 {ks : List Stt} (hk : keysOk ks = true) {s : Stt} (hs : okN ks.length s) (F : List Int) (hF : FarN ks.length F (foundK ks s)) (a : Nat) (x5 : Int) (R : Int × Bool)
    (H : Ev (fun k => spec_LongestByKeys.l0 k (ks.map tx) ((max a (TK ks s) : Nat) : Int) (wrap64 (x5 + 1))) R) : ∀ d j (c : Nat), j + d = 2 ^ ks.length → a ≤ c → c ≤ max a (TK ks s) → (∀ i, i < j → F.getD i 0 ≤ (c : Int)) →
    Ev (fun k => spec_LongestByKeys.l1 k (ks.map tx) (c : Int) x5 F (F.length : Int) (j : Int)) R := by
  obtain ⟨⟨kl1, kl2⟩, k3⟩ := keys_parts hk
  have hp := pow10 kl2
  obtain ⟨h1, h2, t, ht, h3⟩ := TK_facts hk hs
  intro d
  induction d with
  | zero =>
    intro j c hj ha hc hall
    have hb := hall (num t) (by have := numN_lt ht; omega)
    rw [hF.2 t ht, h3] at hb
    have hb2 : ((TK ks s : Nat) : Int) ≤ (c : Int) := hb
    obtain rfl : c = max a (TK ks s) := by omega
    refine Ev.step (fun k => ?_) H
    simp only [spec_LongestByKeys.l1]
    rw [hF.1, if_neg (by omega)]
  | succ d ih =>
    intro j c hj ha hc hall
    have hjl : j < F.length := by rw [hF.1]; omega
    have ho : okN ks.length (stOf ks.length j) := ⟨stOf_length _ _, stOf_ok _ _⟩
    have hv := hF.2 _ ho
    rw [num_stOf ks.length j (by omega)] at hv
    have hrd : rd F (j : Int) = F.getD j 0 := rfl
    obtain ⟨c', e1, e2, e3, e4⟩ : ∃ c' : Nat, spec_l1Most.f (c : Int) (F.getD j 0) = some (c' : Int) ∧ a ≤ c' ∧ c' ≤ max a (TK ks s) ∧ ((c : Int) ≤ (c' : Int) ∧ F.getD j 0 ≤ (c' : Int)) := by
      unfold spec_l1Most.f
      by_cases hgt : (c : Int) > F.getD j 0
      · exact ⟨c, if_pos hgt, ha, hc, Int.le_refl _, by omega⟩
      · rw [hv] at hgt ⊢
        cases hf : (foundK ks s).far (stOf ks.length j) with
        | none =>
          rw [hf] at hgt
          have : fz none = -1 := rfl
          omega
        | some v =>
          rw [hf] at hgt
          have e : fz (some v) = (v : Int) := rfl
          rw [e] at hgt
          have hb := h1 _ _ hf
          exact ⟨v, by rw [e, if_neg hgt], by omega, by omega, by omega, by rw [e]; exact Int.le_refl _⟩
    have h := ih (j + 1) c' (by omega) e2 e3 (fun i hi => by
      by_cases h : i = j
      · rw [h]; exact e4.2
      · exact Int.le_trans (hall i (by omega)) e4.1)
    refine Ev.step (fun k => ?_) h
    simp only [spec_LongestByKeys.l1]
    rw [if_pos (Int.ofNat_lt.2 hjl), if_pos (Int.natCast_nonneg _), if_pos (Int.ofNat_lt.2 hjl), hrd, e1, obind, succ64 (by omega)]
theorem spec_max {ks : List Stt} (hk : keysOk ks = true) : Ev (fun k => spec_LongestByKeys.l0 k (ks.map tx) 0 0) (((upM (fun i => TK ks (stOf ks.length i)) (2 ^ ks.length) : Nat) : Int), true) := by
  obtain ⟨⟨kl1, kl2⟩, k3⟩ := keys_parts hk
  have hp := pow10 kl2
  have go : ∀ d i, i + d = 2 ^ ks.length → Ev (fun k => spec_LongestByKeys.l0 k (ks.map tx) ((upM (fun i => TK ks (stOf ks.length i)) i : Nat) : Int) (i : Int)) (((upM (fun i => TK ks (stOf ks.length i)) (2 ^ ks.length) : Nat) : Int), true) := by
    intro d
    induction d with
    | zero =>
      intro i hi
      obtain rfl : i = 2 ^ ks.length := by omega
      refine Ev.step (f := fun _ => some (((upM (fun i => TK ks (stOf ks.length i)) (2 ^ ks.length) : Nat) : Int), true)) (fun k => ?_) (Ev.now _)
      simp only [spec_LongestByKeys.l0]
      rw [List.length_map, shl_one ks.length (by omega), if_neg (Int.lt_irrefl _)]
    | succ d ih =>
      intro i hi
      have hil : i < 2 ^ ks.length := by omega
      have ho : okN ks.length (stOf ks.length i) := ⟨stOf_length _ _, stOf_ok _ _⟩
      have hr : Ev (fun k => spec_riState.f k (ks.length : Int) (i : Int)) (tx (stOf ks.length i)) := riState ks.length i (by omega) (by omega)
      obtain ⟨F, W, hF, e⟩ := keFar hk ho
      have h := spec_l1 hk ho F hF (upM (fun i => TK ks (stOf ks.length i)) i) (i : Int) (((upM (fun i => TK ks (stOf ks.length i)) (2 ^ ks.length) : Nat) : Int), true) (by
        rw [succ64 (by omega)]
        exact ih (i + 1) (by omega)) (2 ^ ks.length) 0 (upM (fun i => TK ks (stOf ks.length i)) i) (Nat.zero_add _) (Nat.le_refl _) (Nat.le_max_left _ _) (fun i hi => absurd hi (Nat.not_lt_zero i))
      refine Ev.step (f := fun k => (spec_riState.f k (ks.length : Int) (i : Int)).bind fun t149 => ((spec_keFar.f k (ks.map tx) t149).bind fun bt150 => (spec_LongestByKeys.l1 k (ks.map tx) ((upM (fun i => TK ks (stOf ks.length i)) i : Nat) : Int) (i : Int) bt150.1 (bt150.1.length : Int) 0))) (fun k => ?_) (Ev.bind hr (Ev.bind e h))
      simp only [spec_LongestByKeys.l0]
      rw [List.length_map, shl_one ks.length (by omega), if_pos (Int.ofNat_lt.2 hil)]
  exact go (2 ^ ks.length) 0 (Nat.zero_add _)
theorem both_longest (ks : List Stt) (hn : ks.length ≤ 1048576) : ∃ R, Ev (fun k => spec_LongestByKeys.f k (ks.map tx)) R ∧ Ev (fun k => impl_LongestByKeys.f k (ks.map tx)) R := by
  cases hk : keysOk ks with
  | false =>
    refine ⟨(0, false), ?_, ?_⟩
    · unfold spec_LongestByKeys.f
      refine Ev.bind (keGood ks (by omega)) ?_
      rw [hk]
      exact Ev.congr (fun k => if_neg (by simp)) (Ev.now _)
    · unfold impl_LongestByKeys.f
      refine Ev.bind (areKeys ks (by omega)) ?_
      rw [hk]
      exact Ev.congr (fun k => if_neg (by simp)) (Ev.now _)
  | true =>
    refine ⟨(((upM (fun i => TK ks (stOf ks.length i)) (2 ^ ks.length) : Nat) : Int), true), ?_, ?_⟩
    · unfold spec_LongestByKeys.f
      refine Ev.bind (keGood ks (by omega)) ?_
      rw [hk]
      exact Ev.congr (fun k => if_pos rfl) (spec_max hk)
    · unfold impl_LongestByKeys.f
      refine Ev.bind (areKeys ks (by omega)) ?_
      rw [hk]
      refine Ev.congr (fun k => if_pos rfl) (Ev.bind (rows hk) ?_)
      rw [rwK_len, same_max]
      exact impl_max hk
end Go.Proofs.YtjlemddnkpejmaaDoor.Lem
namespace Go.Proofs.YtjlemddnkpejmaaDoor.Pure
open Go.RowKit Go.Proofs.YtjlemddnkpejmaaDoor.Lem Go.Proofs.YtjlemddnkpejmaaDoor.PK Go.Proofs.YtjlemddnkpejmaaDoorW.PrintWords Go.Proofs.YtjlemddnkpejmaaDoorW.PrintLast Go.Proofs.YtjlemddnkpejmaaDoorW.PrintMore

theorem FnExactLongestByKeys : laws_FnExactLongestByKeys.Pure := by
  intro L hl hz
  obtain ⟨t, ht, hc⟩ := szStringS L hl hz
  have key : Ev (fun k => laws_FnExactLongestByKeys.f k L) true := by
    unfold laws_FnExactLongestByKeys.f
    refine Ev.bind ht ?_
    by_cases c1 : t < 0
    · exact Ev.congr (fun k => if_pos c1) (Ev.now _)
    have hh := hc.resolve_left c1
    have h1 := toStringS L hh
    have h2 := eqStringS L hh
    obtain ⟨ks, rfl⟩ := as_tx L
    obtain ⟨R, e1, e2⟩ := both_longest ks (by rwa [List.length_map] at hh)
    refine Ev.congr (fun k => if_neg c1) (Ev.bind h1 (Ev.bind e1 (Ev.bind h1 (Ev.bind e2 ?_))))
    refine Ev.congr (fun k => by rw [if_pos rfl, bne_self_eq_false]) ?_
    refine Ev.step (fun k => by simp only [laws_FnExactLongestByKeys.j0]; rw [if_neg Bool.false_ne_true]) (Ev.bind h1 ?_)
    exact Ev.bind h2 (Ev.congr (fun k => if_pos rfl) (Ev.now _))
  obtain ⟨K, h⟩ := key
  exact ⟨K, h K (Nat.le_refl _)⟩
end Go.Proofs.YtjlemddnkpejmaaDoor.Pure
