/-
  The searches by keys: the reference's and the program's find what the plain search finds.
-/
import Derived.Test.YtdgpkdgpmidaoaaDoorLemKeyK
namespace Go.Proofs.YtdgpkdgpmidaoaaDoor.Bfs
set_option linter.unusedSectionVars false
variable {α : Type} [DecidableEq α]
theorem Path.cons {step : α → List α} {a b c : α} {n : Nat} (h : b ∈ step a) (p : Path step b n c) : Path step a (n + 1) c := by
  induction p with
  | nil => exact .snoc .nil h
  | snoc _ hc ih => exact .snoc ih hc
theorem Path.back {step : α → List α} {P : α → Prop} (hP : ∀ a b, P a → b ∈ step a → P b) (hs : ∀ a b, P a → b ∈ step a → a ∈ step b) {a c : α} {n : Nat} (ha : P a) (p : Path step a n c) : P c ∧ Path step c n a := by
  induction p with
  | nil => exact ⟨ha, .nil⟩
  | @snoc n b c _ hc ih => exact ⟨hP b c ih.1 hc, .cons (hs b c ih.1 hc) ih.2⟩
theorem Final.sym {step : α → List α} {P : α → Prop} (hP : ∀ a b, P a → b ∈ step a → P b) (hs : ∀ a b, P a → b ∈ step a → a ∈ step b) {a b : α} (ha : P a) (hb : P b) {sa sb : St α}
    (fa : Final step a sa) (fb : Final step b sb) : sa.far b = sb.far a := by
  have key : ∀ {a b : α} {sa sb : St α}, P a → Final step a sa → Final step b sb → ∀ n, sa.far b = some n → ∃ m, sb.far a = some m ∧ m ≤ n := by
    intro a b sa sb ha fa fb n h
    exact fb.least a n ((fa.path b n h).back hP hs ha).2
  cases h : sa.far b with
  | none =>
    cases h2 : sb.far a with
    | none => rfl
    | some m =>
      obtain ⟨k, hk, _⟩ := key hb fb fa m h2
      rw [h] at hk; cases hk
  | some n =>
    obtain ⟨m, hm, h1⟩ := key ha fa fb n h
    obtain ⟨k, hk, h2⟩ := key hb fb fa m hm
    rw [h] at hk
    obtain rfl := Option.some.inj hk
    rw [hm]
    congr 1
    omega
end Go.Proofs.YtdgpkdgpmidaoaaDoor.Bfs
namespace Go.Proofs.YtdgpkdgpmidaoaaDoor.Lem
open Go.RowKit Go.Proofs.YtdgpkdgpmidaoaaDoor.PK Go.Proofs.YtdgpkdgpmidaoaaDoorW.PrintWords Go.Proofs.YtdgpkdgpmidaoaaDoorW.PrintLast Go.Proofs.YtdgpkdgpmidaoaaDoorW.PrintMore Go.Proofs.YtdgpkdgpmidaoaaDoor.Ring Go.Proofs.YtdgpkdgpmidaoaaDoor.Bfs
set_option linter.unusedVariables false
set_option linter.unusedSimpArgs false

theorem max3 {a b c n : Nat} (h : max a (max b c) + 1 ≤ n) : ∃ k, n = k + 1 ∧ a ≤ k ∧ b ≤ k ∧ c ≤ k := ⟨n - 1, by omega, by omega, by omega, by omega⟩
def stepK (ks : List Stt) (s : Stt) : List Stt := (mvK ks s ks.length).map (flipAt s)
theorem pow10 : ∀ {n : Nat}, n ≤ 10 → 2 ^ n ≤ 1024 := fun h => Nat.pow_le_pow_right (by decide) h
theorem mvK_lt {ks : List Stt} {s : Stt} {i k : Nat} (h : k ∈ mvK ks s i) : k < i ∧ fits (ks.getD k []) s = true := by
  unfold mvK at h
  rw [List.mem_filter, List.mem_range] at h
  exact h
theorem okN_flip {n : Nat} {s : Stt} (h : okN n s) (k : Nat) : okN n (flipAt s k) := ⟨by rw [flipAt_length]; exact h.1, flipAt_ok h.2 k⟩
theorem step_lenK (ks : List Stt) (s : Stt) : (stepK ks s).length = (mvK ks s ks.length).length := by unfold stepK; rw [List.length_map]
theorem setupK {ks : List Stt} (hk : keysOk ks = true) : Setup (stepK ks) (okN ks.length) num (2 ^ ks.length) := by
  obtain ⟨⟨k1, k2⟩, k3⟩ := keys_parts hk
  refine ⟨?_, ?_, ?_, ?_, ?_, ?_⟩
  · intro s hs t ht
    obtain ⟨m, hm, rfl⟩ := List.mem_map.1 ht
    exact okN_flip hs m
  · intro s hs
    have := num_lt s
    rwa [hs.1] at this
  · intro s t hs ht e
    exact num_inj hs.2 ht.2 (by rw [hs.1, ht.1]) e
  · intro s hs
    have := hs.1
    omega
  · intro s _
    rw [step_lenK]
    have := mvK_len ks s ks.length
    omega
  · exact Nat.le_trans (pow10 k2) (by decide)
theorem rd_ints {l : List Nat} {i : Nat} (h : i < l.length) : rd (ints l) (i : Int) = ((l[i] : Nat) : Int) := by
  have hi : i < (ints l).length := by unfold ints; rw [List.length_map]; exact h
  rw [rd_get hi]
  exact List.getElem_map _
theorem ints_len (l : List Nat) : (ints l).length = l.length := by unfold ints; rw [List.length_map]
theorem stepK_get {ks : List Stt} {s : Stt} {j : Nat} (h : j < (mvK ks s ks.length).length) (h2 : j < (stepK ks s).length) : (stepK ks s)[j] = flipAt s (mvK ks s ks.length)[j] := List.getElem_map _
theorem search1K_l0 {ks : List Stt} (hk : keysOk ks = true) {s : Stt} (hs : okN ks.length s) : ∀ d i (acc : List Stt), i + d = (mvK ks s ks.length).length → acc.length = i →
    Ev (fun k => impl_searchKeyed_1.l0 (tx s) k (ints (mvK ks s ks.length)) (acc.map tx) (i : Int)) ((acc ++ ((mvK ks s ks.length).drop i).map (flipAt s)).map tx) := by
  obtain ⟨⟨k1, k2⟩, k3⟩ := keys_parts hk
  have hl := mvK_len ks s ks.length
  intro d
  induction d with
  | zero =>
    intro i acc h ha
    rw [List.drop_eq_nil_of_le (by omega), List.map_nil, List.append_nil]
    refine Ev.step (f := fun _ => some (acc.map tx)) (fun k => ?_) (Ev.now _)
    simp only [impl_searchKeyed_1.l0]
    rw [ints_len, if_neg (fun h => by have := Int.ofNat_lt.1 h; omega)]
  | succ d ih =>
    intro i acc h ha
    have hi : i < (mvK ks s ks.length).length := by omega
    obtain ⟨m, hm⟩ : ∃ m, (mvK ks s ks.length)[i] = m := ⟨_, rfl⟩
    have hmm := mvK_lt (hm ▸ List.getElem_mem hi)
    have ht := turned s (by have := hs.1; omega) hs.2 m (by rw [hs.1]; exact hmm.1)
    have e := ih (i + 1) (acc ++ [flipAt s m]) (by omega) (by rw [List.length_append, ha]; rfl)
    have e2 : (acc ++ ((mvK ks s ks.length).drop i).map (flipAt s)) = (acc ++ [flipAt s m]) ++ ((mvK ks s ks.length).drop (i + 1)).map (flipAt s) := by
      rw [List.drop_eq_getElem_cons hi, hm, List.map_cons, List.append_assoc]
      rfl
    rw [e2]
    refine Ev.step (fun k => ?_) e
    simp only [impl_searchKeyed_1.l0]
    rw [ints_len, if_pos (Int.ofNat_lt.2 hi), if_pos (Int.natCast_nonneg _), rd_ints hi, hm, ht, obind, if_pos (by rw [List.length_map]; omega), succ64 (by omega), List.map_append]
    rfl
theorem search1K {ks : List Stt} (hk : keysOk ks = true) (s : Stt) (hs : okN ks.length s) : Ev (fun k => impl_searchKeyed_1.f (ks.map tx) k (tx s)) ((stepK ks s).map tx) := by
  unfold impl_searchKeyed_1.f
  refine Ev.bind (keyedMoves hk hs) ?_
  have h := search1K_l0 hk hs (mvK ks s ks.length).length 0 [] (Nat.zero_add _) rfl
  rw [List.drop_zero, List.nil_append] at h
  exact h
def foundK (ks : List Stt) (s : Stt) : St Stt := found (stepK ks) (2 ^ ks.length) s
theorem search_runK {ks : List Stt} (hk : keysOk ks = true) (s : Stt) (hs : okN ks.length s) : Ev (fun k => impl_searchKeyed.f k (ks.map tx) (tx s)) ((foundK ks s).q.map tx, fB (foundK ks s), gB (foundK ks s)) := by
  unfold impl_searchKeyed.f
  exact searched_run (setupK hk) (fun k => impl_searchKeyed_1.f (ks.map tx) k) (search1K hk) s hs

/-! ### The reference's -/
def fz : Option Nat → Int
  | none => -1
  | some n => (n : Int)
theorem fz_neg {o : Option Nat} : fz o < 0 ↔ o = none := by
  cases o with
  | none => simp [fz]
  | some n => simp [fz]
def FarN (n : Nat) (F : List Int) (st : St Stt) : Prop := F.length = 2 ^ n ∧ ∀ s, okN n s → F.getD (num s) 0 = fz (st.far s)
theorem numN_lt {n : Nat} {s : Stt} (hs : okN n s) : num s < 2 ^ n := by
  have := num_lt s
  rwa [hs.1] at this
theorem numN_inj {n : Nat} {s t : Stt} (hs : okN n s) (ht : okN n t) (e : num s = num t) : s = t := num_inj hs.2 ht.2 (by rw [hs.1, ht.1]) e
theorem getD_set {l : List Int} {i j : Nat} {v : Int} (hi : i < l.length) : (l.set i v).getD j 0 = if i = j then v else l.getD j 0 := by
  rw [List.getD_eq_getElem?_getD, List.getElem?_set, List.getD_eq_getElem?_getD]
  by_cases e : i = j
  · rw [if_pos e, if_pos e, if_pos hi]; rfl
  · rw [if_neg e, if_neg e]
theorem FarN.set {n : Nat} {F : List Int} {st : St Stt} (h : FarN n F st) {t : Stt} (ht : okN n t) (v : Nat) (q : List Stt) (w : Stt → Int) : FarN n (F.set (num t) (v : Int)) ⟨q, Bfs.upd st.far t (some v), w⟩ := by
  refine ⟨by rw [List.length_set]; exact h.1, fun s hs => ?_⟩
  rw [getD_set (by rw [h.1]; exact numN_lt ht)]
  simp only [Bfs.upd]
  by_cases e : s = t
  · rw [if_pos e, if_pos (by rw [e])]
    rfl
  · rw [if_neg e, if_neg (fun h => e (numN_inj hs ht h.symm))]
    exact h.2 s hs
theorem rdDk (l : List Int) (i : Nat) : rd l (i : Int) = l.getD i 0 := rfl
theorem riNum {n : Nat} (hn : n ≤ 10) {s : Stt} (hs : okN n s) : Ev (fun k => spec_riNumber.f k (tx s)) ((num s : Nat) : Int) := by
  have h := riNumber (tx s) (by rw [tx_data, hs.1]; omega)
  rw [tx_data] at h
  exact h
theorem kf_l2 {ks : List Stt} (hk : keysOk ks = true) (s0 : Stt) (i : Nat) (u : Stt) (du : Nat) : ∀ (d j : Nat) (st : St Stt) (p : List Stt) (F W : List Int),
    j + d = (mvK ks u ks.length).length → InvIn (stepK ks) s0 st i u p → GoodS (okN ks.length) st → FarN ks.length F st → W.length = 2 ^ ks.length → Bfs.d st u = du →
    ∃ F' W', FarN ks.length F' (((stepK ks u).drop j).foldl (relax addC u) st) ∧ W'.length = 2 ^ ks.length ∧ ∀ R, Ev (fun k => spec_keFar.l1 k (ks.map tx) F' W' ((((stepK ks u).drop j).foldl (relax addC u) st).q.map tx) ((i + 1 : Nat) : Int)) R →
      Ev (fun k => spec_keFar.l2 k (ks.map tx) F W (st.q.map tx) (i : Int) ((num u : Nat) : Int) (ints (mvK ks u ks.length)) ((mvK ks u ks.length).length : Int) (j : Int)) R := by
  obtain ⟨⟨kl1, kl2⟩, k3⟩ := keys_parts hk
  have hp1 := pow10 kl2
  intro d
  induction d with
  | zero =>
    intro j st p F W hj I G hF hW hdu
    have hil : i < 1025 := by have h1 := G.len (setupK hk) I.nodup; have h2 := I.lt; omega
    have hd0 : (stepK ks u).drop j = [] := List.drop_eq_nil_of_le (by rw [step_lenK]; omega)
    rw [hd0]
    refine ⟨F, W, hF, hW, fun R h => ?_⟩
    refine Ev.step (fun k => ?_) h
    simp only [spec_keFar.l2]
    rw [if_neg (show ¬ (j : Int) < ((mvK ks u ks.length).length : Int) from fun h => by have := Int.ofNat_lt.1 h; omega), succ64 (by omega)]
    rfl
  | succ d ih =>
    intro j st p F W hj I G hF hW hdu
    have hjl : j < (mvK ks u ks.length).length := by omega
    obtain ⟨m, hm⟩ : ∃ m, (mvK ks u ks.length)[j] = m := ⟨_, rfl⟩
    have hmm := mvK_lt (hm ▸ List.getElem_mem hjl)
    obtain ⟨t, ht⟩ : ∃ t, flipAt u m = t := ⟨_, rfl⟩
    have hdr : (stepK ks u).drop j = t :: (stepK ks u).drop (j + 1) := by
      have hjs : j < (stepK ks u).length := by rw [step_lenK]; exact hjl
      rw [List.drop_eq_getElem_cons hjs, stepK_get hjl hjs, hm, ht]
    have htm : t ∈ stepK ks u := ht ▸ List.mem_map_of_mem (hm ▸ List.getElem_mem hjl)
    have huq : u ∈ st.q := List.mem_of_getElem? I.at_
    have hou := G.ok u huq
    have hot : okN ks.length t := ht ▸ okN_flip hou m
    have huf := (I.iff u).2 huq
    have hlen := G.len (setupK hk) I.nodup
    have hil : i < 1025 := by have h2 := I.lt; omega
    have hqlt : (i : Int) < ((st.q.map tx).length : Int) := by rw [List.length_map]; exact Int.ofNat_lt.2 I.lt
    have hq43 : (st.q.map tx).length < 8796093022208 := by rw [List.length_map]; omega
    have hj62 : j < 4611686018427387904 := by have := mvK_len ks u ks.length; omega
    have hdl := G.d huf
    have hdu62 : du < 4611686018427387904 := by rw [hdu] at hdl; omega
    have hqi : st.q[i]'I.lt = u := by have := I.at_; rw [List.getElem?_eq_getElem I.lt] at this; exact Option.some.inj this
    have hrd : rdOf ByteArray.empty (st.q.map tx) (i : Int) = tx u := by rw [rdM I.lt, hqi]
    have hmv : spec_riMove.f (tx u) ((m : Nat) : Int) = some (tx t) := by rw [← ht]; exact riMove u (by have := hou.1; omega) hou.2 m (by rw [hou.1]; exact hmm.1)
    have hnum := riNum kl2 hot
    have hnt : ((num t : Nat) : Int) < (F.length : Int) := by rw [hF.1]; exact Int.ofNat_lt.2 (numN_lt hot)
    have hnu : ((num u : Nat) : Int) < (F.length : Int) := by rw [hF.1]; exact Int.ofNat_lt.2 (numN_lt hou)
    have hwt : ((num t : Nat) : Int) < (W.length : Int) := by rw [hW]; exact Int.ofNat_lt.2 (numN_lt hot)
    have hwu : ((num u : Nat) : Int) < (W.length : Int) := by rw [hW]; exact Int.ofNat_lt.2 (numN_lt hou)
    have hsj : wrap64 ((j : Int) + 1) = ((j + 1 : Nat) : Int) := succ64 hj62
    have hsd : wrap64 ((du : Int) + 1) = ((du + 1 : Nat) : Int) := succ64 hdu62
    obtain ⟨v0, hv0⟩ := Option.isSome_iff_exists.1 huf
    have hvd : v0 = du := by rw [← hdu]; simp [Bfs.d, hv0]
    rw [hvd] at hv0
    have hrF : rd F ((num t : Nat) : Int) = fz (st.far t) := hF.2 t hot
    have hrU : rd F ((num u : Nat) : Int) = (du : Int) := by
      have h := hF.2 u hou
      rw [hv0] at h
      exact h
    have I2 := I.relaxed addC htm
    have G2 := G.relaxed addC huf hot
    have hJ : (j : Int) < ((mvK ks u ks.length).length : Int) := Int.ofNat_lt.2 hjl
    have hJ2 : (j : Int) < ((ints (mvK ks u ks.length)).length : Int) := by rw [ints_len]; exact hJ
    rw [hdr]
    simp only [List.foldl_cons]
    cases hft : st.far t with
    | none =>
      have hut : u ≠ t := fun e => by rw [e, hft] at huf; cases huf
      have hdu2 : Bfs.d (relax addC u st t) u = du := by rw [relax_new hft hut, d_upd_ne hut]; exact hdu
      rw [relax_new hft hut] at I2 G2 hdu2 ⊢
      have hF2 := FarN.set hF hot (Bfs.d st u + 1) (st.q ++ [t]) (Bfs.upd st.ways t (addC (st.ways t) (st.ways u)))
      have hy1 : rd (F.set (num t) ((du + 1 : Nat) : Int)) ((num t : Nat) : Int) = ((du + 1 : Nat) : Int) := by
        rw [rdDk, getD_set (by rw [hF.1]; exact numN_lt hot), if_pos rfl]
      have hy2 : rd (F.set (num t) ((du + 1 : Nat) : Int)) ((num u : Nat) : Int) = (du : Int) := by
        rw [rdDk, getD_set (by rw [hF.1]; exact numN_lt hot), if_neg (fun e => hut (numN_inj hou hot e.symm))]
        exact hrU
      obtain ⟨F', W', hF', hW', K⟩ := ih (j + 1) _ _ _ (W.set (num t) (wrap64 (rd W ((num t : Nat) : Int) + rd W ((num u : Nat) : Int)))) (ar_j hj) I2 G2 hF2 (by rw [List.length_set]; exact hW) hdu2
      refine ⟨F', W', hF', hW', fun R h => ?_⟩
      have e3 := K R h
      rw [List.map_append, hdu] at e3
      refine ev_num hnum e3 (fun k hk => ?_)
      simp only [spec_keFar.l2]
      rw [if_pos hJ, if_pos (Int.natCast_nonneg _), if_pos hJ2, if_pos (Int.natCast_nonneg _), if_pos hqlt, hrd, rd_ints hjl, hm, hmv, obind, hk, obind, if_pos (Int.natCast_nonneg _), if_pos hnt, hrF, hft, if_pos (by decide), if_pos (Int.natCast_nonneg _), if_pos hnu, obind, if_pos hq43, obind, hrU, hsd, Int.toNat_natCast, hy1, hy2, hsd, if_pos rfl, if_pos hwt, if_pos hwu, hsj]
      rfl
    | some v =>
      have hneg : ¬ fz (some v) < 0 := by rw [fz_neg]; simp
      have hF2 : FarN ks.length F (relax addC u st t) := ⟨hF.1, fun s hs => by rw [hF.2 s hs, (relax_q_far addC u st t).2, hft]; rfl⟩
      have hq2 : (relax addC u st t).q = st.q := by rw [(relax_q_far addC u st t).1, hft]; rfl
      have hdu2 : Bfs.d (relax addC u st t) u = du := by unfold Bfs.d; rw [(relax_q_far addC u st t).2, hft]; exact hdu
      by_cases hc : fz (some v) = ((du + 1 : Nat) : Int)
      · obtain ⟨F', W', hF', hW', K⟩ := ih (j + 1) _ _ _ (W.set (num t) (wrap64 (rd W ((num t : Nat) : Int) + rd W ((num u : Nat) : Int)))) (ar_j hj) I2 G2 hF2 (by rw [List.length_set]; exact hW) hdu2
        refine ⟨F', W', hF', hW', fun R h => ?_⟩
        have e3 := K R h
        rw [hq2] at e3
        refine ev_num hnum e3 (fun k hk => ?_)
        simp only [spec_keFar.l2]
        rw [if_pos hJ, if_pos (Int.natCast_nonneg _), if_pos hJ2, if_pos (Int.natCast_nonneg _), if_pos hqlt, hrd, rd_ints hjl, hm, hmv, obind, hk, obind, if_pos (Int.natCast_nonneg _), if_pos hnt, hrF, hft, if_neg hneg, if_pos (Int.natCast_nonneg _), if_pos hnu, hrU, hsd, if_pos hc, if_pos hwt, if_pos hwu, hsj, Int.toNat_natCast]
      · obtain ⟨F', W', hF', hW', K⟩ := ih (j + 1) _ _ _ W (ar_j hj) I2 G2 hF2 hW hdu2
        refine ⟨F', W', hF', hW', fun R h => ?_⟩
        have e3 := K R h
        rw [hq2] at e3
        refine ev_num hnum e3 (fun k hk => ?_)
        simp only [spec_keFar.l2]
        rw [if_pos hJ, if_pos (Int.natCast_nonneg _), if_pos hJ2, if_pos (Int.natCast_nonneg _), if_pos hqlt, hrd, rd_ints hjl, hm, hmv, obind, hk, obind, if_pos (Int.natCast_nonneg _), if_pos hnt, hrF, hft, if_neg hneg, if_pos (Int.natCast_nonneg _), if_pos hnu, hrU, hsd, if_neg hc, hsj]
theorem kf_l1 {ks : List Stt} (hk : keysOk ks = true) (s0 : Stt) : ∀ (m i : Nat) (st : St Stt) (F W : List Int), Inv (stepK ks) s0 st i → GoodS (okN ks.length) st → FarN ks.length F st → W.length = 2 ^ ks.length → 2 ^ ks.length ≤ i + m →
    ∃ F' W', FarN ks.length F' (run addC (stepK ks) m i st) ∧ Ev (fun k => spec_keFar.l1 k (ks.map tx) F W (st.q.map tx) (i : Int)) (F', W') := by
  obtain ⟨⟨kl1, kl2⟩, k3⟩ := keys_parts hk
  have hp1 := pow10 kl2
  intro m
  induction m with
  | zero =>
    intro i st F W I G hF hW hN
    have h1 := G.len (setupK hk) I.nodup
    refine ⟨F, W, hF, Ev.step (f := fun _ => some (F, W)) (fun k => ?_) (Ev.now _)⟩
    simp only [spec_keFar.l1]
    rw [List.length_map, if_neg (fun h => by have := Int.ofNat_lt.1 h; omega)]
  | succ m ih =>
    intro i st F W I G hF hW hN
    by_cases hi : i < st.q.length
    · obtain ⟨u, hu⟩ : ∃ u, st.q[i] = u := ⟨_, rfl⟩
      have hin := I.enter hi
      rw [hu] at hin
      have hou : okN ks.length u := hu ▸ G.ok _ (List.getElem_mem hi)
      have I2 := I.process addC hi
      rw [hu] at I2
      have G2 : GoodS (okN ks.length) (process addC (stepK ks) st u) := GoodS.foldl addC (stepK ks u) st [] hin G (fun t ht => ht) ((setupK hk).next u hou)
      obtain ⟨F1, W1, hF1, hW1, K⟩ := kf_l2 hk s0 i u (Bfs.d st u) (mvK ks u ks.length).length 0 st [] F W (Nat.zero_add _) hin G hF hW rfl
      rw [List.drop_zero] at hF1 K
      obtain ⟨F', W', hF', e⟩ := ih (i + 1) _ F1 W1 I2 G2 hF1 hW1 (by omega)
      have e2 := K _ e
      have hrun : run addC (stepK ks) (m + 1) i st = run addC (stepK ks) m (i + 1) (process addC (stepK ks) st u) := by
        conv => lhs; unfold run
        rw [dif_pos hi, hu]
      rw [hrun]
      refine ⟨F', W', hF', ?_⟩
      obtain ⟨K1, g1⟩ := riNum kl2 hou
      obtain ⟨K2, g2⟩ := keMoves hk hou
      obtain ⟨K3, g3⟩ := e2
      have g1 : ∀ k, K1 ≤ k → spec_riNumber.f k (tx u) = some ((num u : Nat) : Int) := g1
      have g2 : ∀ k, K2 ≤ k → spec_keMoves.f k (ks.map tx) (tx u) = some (ints (mvK ks u ks.length)) := g2
      refine ⟨max K1 (max K2 K3) + 1, fun n hn => ?_⟩
      obtain ⟨k, rfl, k1, k2, k3⟩ := max3 hn
      simp only [spec_keFar.l1]
      rw [if_pos (show (i : Int) < ((st.q.map tx).length : Int) by rw [List.length_map]; exact Int.ofNat_lt.2 hi), if_pos (Int.natCast_nonneg _), rdM hi, hu, g1 k k1, obind, g2 k k2, obind, ints_len]
      exact g3 k k3
    · have hrun : run addC (stepK ks) (m + 1) i st = st := by
        conv => lhs; unfold run
        rw [dif_neg hi]
      rw [hrun]
      refine ⟨F, W, hF, Ev.step (f := fun _ => some (F, W)) (fun k => ?_) (Ev.now _)⟩
      simp only [spec_keFar.l1]
      rw [List.length_map, if_neg (fun h => hi (Int.ofNat_lt.1 h))]
theorem kf_l0 {ks : List Stt} (hk : keysOk ks = true) {s : Stt} (hs : okN ks.length s) (R : List Int × List Int)
    (h : Ev (fun k => spec_keFar.l1 k (ks.map tx) ((List.replicate (2 ^ ks.length) (-1 : Int)).set (num s) 0) ((List.replicate (2 ^ ks.length) (0 : Int)).set (num s) 1) [tx s] (0 : Int)) R) : ∀ (d i : Nat) (acc : List Int), i + d = 2 ^ ks.length → acc.length = 2 ^ ks.length → acc.take i = List.replicate i (-1) →
    Ev (fun k => spec_keFar.l0 k (ks.map tx) (tx s) acc (List.replicate (2 ^ ks.length) (0 : Int)) ((2 ^ ks.length : Nat) : Int) (i : Int)) R := by
  obtain ⟨⟨kl1, kl2⟩, k3⟩ := keys_parts hk
  have hp := pow10 kl2
  have hlt := numN_lt hs
  generalize 2 ^ ks.length = N at *
  intro d
  induction d with
  | zero =>
    intro i acc hi hl ht
    obtain rfl : i = N := by omega
    rw [List.take_of_length_le (by omega)] at ht
    subst ht
    refine ev_num (riNum kl2 hs) h (fun k hk => ?_)
    simp only [spec_keFar.l0]
    rw [if_neg (Int.lt_irrefl _), hk, obind, if_pos (Int.natCast_nonneg _), if_pos (by rw [List.length_replicate]; exact Int.ofNat_lt.2 hlt), if_pos (by rw [List.length_replicate]; exact Int.ofNat_lt.2 hlt), Int.toNat_natCast]
  | succ d ih =>
    intro i acc hi hl ht
    have hil : i < acc.length := by omega
    refine Ev.step (fun k => ?_) (ih (i + 1) (acc.set i (-1)) (by omega) (by rw [List.length_set]; exact hl) ?_)
    · simp only [spec_keFar.l0]
      rw [if_pos (Int.ofNat_lt.2 (by omega)), if_pos (Int.natCast_nonneg _), if_pos (Int.ofNat_lt.2 hil), Int.toNat_natCast, succ64 (by omega)]
    · rw [List.take_succ_eq_append_getElem (by rw [List.length_set]; exact hil), List.take_set_of_le (Nat.le_refl i), ht, List.getElem_set_self, List.replicate_succ']
/-- What the reference's search finds. -/
theorem keFar {ks : List Stt} (hk : keysOk ks = true) {s : Stt} (hs : okN ks.length s) : ∃ F W, FarN ks.length F (foundK ks s) ∧ Ev (fun k => spec_keFar.f k (ks.map tx) (tx s)) (F, W) := by
  obtain ⟨⟨kl1, kl2⟩, k3⟩ := keys_parts hk
  have hp := pow10 kl2
  have hlt := numN_lt hs
  have hF0 : FarN ks.length ((List.replicate (2 ^ ks.length) (-1 : Int)).set (num s) 0) (init s) := by
    refine ⟨by rw [List.length_set, List.length_replicate], fun t ht => ?_⟩
    rw [getD_set (by rw [List.length_replicate]; exact hlt)]
    by_cases e : t = s
    · rw [if_pos (by rw [e])]
      simp [init, e, fz]
    · rw [if_neg (fun h => e (numN_inj ht hs h.symm))]
      have hl := numN_lt ht
      rw [List.getD_eq_getElem?_getD, List.getElem?_replicate, if_pos hl]
      simp [init, e, fz]
  obtain ⟨F, W, hF, e⟩ := kf_l1 hk s (2 ^ ks.length) 0 (init s) _ ((List.replicate (2 ^ ks.length) (0 : Int)).set (num s) 1) (Inv.start _ _) (GoodS.start hs) hF0 (by rw [List.length_set, List.length_replicate]) (by omega)
  refine ⟨F, W, hF, ?_⟩
  have e0 := kf_l0 hk hs _ e (2 ^ ks.length) 0 (List.replicate (2 ^ ks.length) 0) (Nat.zero_add _) (List.length_replicate ..) rfl
  unfold spec_keFar.f
  have hsh : shl .i64 1 ((tx s).size : Int) = ((2 ^ ks.length : Nat) : Int) := by rw [tx_size, hs.1]; exact shl_one ks.length (by omega)
  refine Ev.congr (fun k => ?_) e0
  rw [hsh, if_pos (Int.natCast_nonneg _), Int.toNat_natCast, if_pos (by omega), obind, List.length_replicate]
  rfl
theorem keTwo (ks : List Stt) (s t : Stt) (hn : ks.length ≤ 1048576) : Ev (fun k => spec_keTwo.f k (ks.map tx) (tx s) (tx t)) (askK ks s && askK ks t) := by
  unfold spec_keTwo.f
  refine Ev.bind (keAsked ks s hn) ?_
  cases askK ks s with
  | false => exact Ev.congr (fun k => if_neg (by simp)) (Ev.now _)
  | true =>
    rw [Bool.true_and]
    exact Ev.congr (fun k => if_pos rfl) (Ev.bind (f := fun _ t => some t) (keAsked ks t hn) (Ev.now _))
/-! ### Moves go back -/
theorem fits_flip {ks : List Stt} (hk : keysOk ks = true) {s : Stt} {k : Nat} (hkl : k < ks.length) (h : fits (ks.getD k []) s = true) : fits (ks.getD k []) (flipAt s k) = true := by
  obtain ⟨_, k3⟩ := keys_parts hk
  obtain ⟨a1, a2, a3⟩ := k3 k hkl
  rw [getD_get hkl] at h ⊢
  unfold fits at h ⊢
  rw [List.all_eq_true] at h ⊢
  intro i hi
  have h2 := h i hi
  unfold fitAt at h2 ⊢
  by_cases e : i = k
  · subst e
    have : (ks[i]).getD i 0 = 63 := by rw [List.getD_eq_getElem?_getD, a2]; rfl
    rw [this]
    rfl
  · have e2 : (flipAt s k).getD i 0 = s.getD i 0 := by rw [List.getD_eq_getElem?_getD, flipAt_get, if_neg (fun h => e h.symm), ← List.getD_eq_getElem?_getD]
    rw [e2]
    exact h2
theorem stepK_back {ks : List Stt} (hk : keysOk ks = true) {s t : Stt} (hs : okN ks.length s) (h : t ∈ stepK ks s) : s ∈ stepK ks t := by
  obtain ⟨k, hm, rfl⟩ := List.mem_map.1 h
  obtain ⟨hkl, hf⟩ := mvK_lt hm
  have h2 : k ∈ mvK ks (flipAt s k) ks.length := by
    unfold mvK
    rw [List.mem_filter, List.mem_range]
    exact ⟨hkl, fits_flip hk hkl hf⟩
  have := List.mem_map_of_mem (f := flipAt (flipAt s k)) h2
  rw [flipAt_flipAt hs.2] at this
  exact this
theorem found_sym {ks : List Stt} (hk : keysOk ks = true) {a b : Stt} (ha : okN ks.length a) (hb : okN ks.length b) : (foundK ks b).far a = (foundK ks a).far b :=
  (Final.sym (P := okN ks.length) (fun x y hx hy => (setupK hk).next x hx y hy) (fun x y hx hy => stepK_back hk hx hy) ha hb (found_good (setupK hk) ha).1.final (found_good (setupK hk) hb).1.final).symm
theorem ok_smallK {n : Nat} (hn : n ≤ 10) {s : Stt} (hs : okN n s) : (tx s).size ≤ maxLen := by
  rw [tx_size, hs.1]
  exact sz_le (by omega)
end Go.Proofs.YtdgpkdgpmidaoaaDoor.Lem
