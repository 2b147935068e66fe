/-
  The reference's search over keyed moves.
-/
import Derived.Test.YtjlemddnkpejmaaDoorLemLinksK
import Derived.Test.YtjlemddnkpejmaaDoorPair
namespace Go.Proofs.YtjlemddnkpejmaaDoor.Lem
open Go.RowKit Go.Proofs.YtjlemddnkpejmaaDoor.PK Go.Proofs.YtjlemddnkpejmaaDoorW.PrintWords Go.Proofs.YtjlemddnkpejmaaDoorW.PrintLast Go.Proofs.YtjlemddnkpejmaaDoorW.PrintMore Go.Proofs.YtjlemddnkpejmaaDoor.Ring Go.Proofs.YtjlemddnkpejmaaDoor.Bfs
set_option linter.unusedVariables false
set_option linter.unusedSimpArgs false

theorem isSt_len {l : List UInt8} (h : isSt l = true) : 1 ≤ l.length ∧ l.length ≤ 20 ∧ l.all okc = true := by
  simpa [isSt, and_assoc] using h
theorem num_le {l : List UInt8} (h : l.length ≤ 20) : num l < 1048576 := by
  have := num_lt l
  have : 2 ^ l.length ≤ 2 ^ 20 := Nat.pow_le_pow_right (by decide) h
  have e : 2 ^ 20 = 1048576 := rfl
  omega
theorem riNumber_l0 (s : ByteArray) (hs : s.data.toList.length ≤ 20) : ∀ (j k : Nat), j ≤ s.data.toList.length → j < k →
    spec_riNumber.l0 k s (num (s.data.toList.drop j) : Int) (dig (s.data.toList.drop j) : Int) ((j : Int) - 1) = some (num s.data.toList : Int) := by
  intro j
  induction j with
  | zero =>
    intro k _ hk
    obtain ⟨k, rfl⟩ : ∃ j, k = j + 1 := ⟨k - 1, by omega⟩
    simp only [spec_riNumber.l0]
    rw [if_neg (by omega)]
    rfl
  | succ j ih =>
    intro k hj hk
    obtain ⟨k, rfl⟩ : ∃ j, k = j + 1 := ⟨k - 1, by omega⟩
    have e := size_eq s
    have hlt : j < s.data.toList.length := by omega
    have hb := bt_get hlt
    have hd := List.drop_eq_getElem_cons hlt
    have h1 : num (s.data.toList.drop (j + 1)) < 1048576 := num_le (by rw [List.length_drop]; omega)
    have h2 := dig_lt (s.data.toList.drop (j + 1))
    have h3 := ih k (by omega) (by omega)
    have ei : ((j + 1 : Nat) : Int) - 1 = (j : Int) := by omega
    have ew : wrap64 ((j : Int) - 1) = (j : Int) - 1 := w64 (by omega) (by omega)
    simp only [spec_riNumber.l0]
    rw [ei, if_pos (by omega), if_pos (by omega), if_pos (by omega), hb, ew]
    simp only [is49]
    rw [hd, num, dig] at h3
    by_cases hc : s.data.toList[j] = 49
    · rw [if_pos hc]
      rw [if_pos hc] at h3
      rw [← h3]
      congr 1
      · rw [w64 (n := 2 * _) (by omega) (by omega), w64 (n := 1 - _) (by omega) (by omega), w64 (by omega) (by omega)]; omega
      · rw [w64 (by omega) (by omega)]; omega
    · rw [if_neg hc]
      rw [if_neg hc] at h3
      rw [← h3]
      congr 1
      rw [w64 (n := 2 * _) (by omega) (by omega), w64 (by omega) (by omega)]; omega
theorem riNumber (s : ByteArray) (hs : s.data.toList.length ≤ 20) : Ev (fun k => spec_riNumber.f k s) (num s.data.toList : Int) := by
  refine Ev.of (k := 21) (fun k => spec_riNumber.mono s k) ?_
  have h := riNumber_l0 s hs s.data.toList.length 21 (Nat.le_refl _) (by omega)
  rw [List.drop_length] at h
  unfold spec_riNumber.f
  have e := size_eq s
  rw [w64 (by omega) (by omega), e]
  exact h
theorem flip_parts (l : List UInt8) (k : Nat) (hk : k < l.length) : flipAt l k = l.take k ++ flipC l[k] :: l.drop (k + 1) := by
  unfold flipAt
  exact List.modify_eq_take_cons_drop hk
theorem join3 (l : List UInt8) (k : Nat) (hk : k < l.length) (c : UInt8) (hc : flipC l[k] = c) : (((tx l).extract 0 k ++ (⟨#[c]⟩ : ByteArray)) ++ (tx l).extract (k + 1) l.length) = tx (flipAt l k) := by
  apply ba_ext
  rw [tx_data, flip_parts l k hk, hc, ByteArray.data_append, ByteArray.data_append, Array.toList_append, Array.toList_append, extract_list, extract_list, tx_data, List.drop_zero, List.take_of_length_le (Nat.le_refl _)]
  simp
theorem riMove (l : List UInt8) (h20 : l.length ≤ 20) (ho : l.all okc = true) (k : Nat) (hk : k < l.length) : spec_riMove.f (tx l) (k : Int) = some (tx (flipAt l k)) := by
  have e := tx_size l
  have hb : bt (tx l) (k : Int) = (l[k].toNat : Int) := bt_opt (by rw [tx_data]; exact List.getElem?_eq_getElem hk)
  have hc : okc l[k] = true := List.all_eq_true.1 ho _ (List.getElem_mem _)
  have e1 : ((k : Nat) : Int).toNat = k := rfl
  have e2 : ((k + 1 : Nat) : Int).toNat = k + 1 := rfl
  have hx1 : ((tx l).extract 0 k).size ≤ 20 := by rw [size_eq, extract_list]; simp; omega
  have hx2 : ((tx l).extract (k + 1) l.length).size ≤ 20 := by rw [size_eq, extract_list, tx_data]; simp; omega
  unfold spec_riMove.f
  rw [if_pos (by omega), e, if_pos (by omega), hb]
  simp only [is49]
  have es : wrap64 ((k : Int) + 1) = ((k + 1 : Nat) : Int) := succ64 (by omega)
  rw [es, e1, e2]
  have hs1 : ∀ c : UInt8, ((tx l).extract 0 k ++ (⟨#[c]⟩ : ByteArray)).size = ((tx l).extract 0 k).size + 1 := fun c => by rw [ByteArray.size_append]; rfl
  rcases okc_cases hc with h | h
  · rw [if_neg (by rw [h]; decide), if_pos (by omega), if_pos (by omega), if_pos (by omega), if_pos (by omega), if_pos (by rw [hs1]; omega), join3 l k hk 49 (by rw [h]; decide)]
  · rw [if_pos h, if_pos (by omega), if_pos (by omega), if_pos (by omega), if_pos (by omega), if_pos (by rw [hs1]; omega), join3 l k hk 48 (by rw [h]; decide)]

/-- The ways are of no account here. -/
def addC (a b : Int) : Int := a
/-- What a search goes over: states of bounded size and number, told apart by their numbers. -/
structure Setup (step : Stt → List Stt) (ok : Stt → Prop) (num : Stt → Nat) (N : Nat) : Prop where
  next : ∀ s, ok s → ∀ t ∈ step s, ok t
  lt : ∀ s, ok s → num s < N
  inj : ∀ s t, ok s → ok t → num s = num t → s = t
  small : ∀ s, ok s → s.length ≤ 1000
  few : ∀ s, ok s → (step s).length ≤ 1000
  nle : N ≤ 1000000
structure GoodS (ok : Stt → Prop) (st : St Stt) : Prop where
  bnd : ∀ t n, st.far t = some n → n < st.q.length
  ok : ∀ x ∈ st.q, ok x
  out : ∀ t, st.far t = none → st.ways t = 0
theorem GoodS.len {step : Stt → List Stt} {ok : Stt → Prop} {num : Stt → Nat} {N : Nat} (S : Setup step ok num N) {st : St Stt} (G : GoodS ok st) (hn : st.q.Nodup) : st.q.length ≤ N := by
  have h := nodup_bound N (st.q.map num) ?_ ?_
  · rwa [List.length_map] at h
  · unfold List.Nodup
    rw [List.pairwise_map]
    exact List.Pairwise.imp_of_mem (fun ha hb hne e => hne (S.inj _ _ (G.ok _ ha) (G.ok _ hb) e)) hn
  · intro x hx
    obtain ⟨y, hy, rfl⟩ := List.mem_map.1 hx
    exact S.lt y (G.ok y hy)
theorem GoodS.d {ok : Stt → Prop} {st : St Stt} (G : GoodS ok st) {u : Stt} (hu : (st.far u).isSome = true) : Bfs.d st u < st.q.length := by
  obtain ⟨m, hm⟩ := Option.isSome_iff_exists.1 hu
  have := G.bnd u m hm
  simp [Bfs.d, hm]
  exact this
theorem GoodS.relaxed {ok : Stt → Prop} {st : St Stt} (G : GoodS ok st) (add : Int → Int → Int) {u t : Stt} (hu : (st.far u).isSome = true) (ht : ok t) : GoodS ok (relax add u st t) := by
  have hd := G.d hu
  obtain ⟨hq, hf⟩ := relax_q_far add u st t
  constructor
  · intro x n hx
    rw [hf] at hx
    rw [hq]
    by_cases h : (st.far t).isNone = true
    · rw [if_pos h] at hx ⊢
      rw [List.length_append]
      simp only [List.length_cons, List.length_nil]
      by_cases e : x = t
      · simp only [Bfs.upd, e, if_true, Option.some.injEq] at hx
        omega
      · simp only [Bfs.upd, e, if_false] at hx
        have := G.bnd x n hx
        omega
    · rw [if_neg h] at hx ⊢
      exact G.bnd x n hx
  · intro x hx
    rw [hq] at hx
    split at hx
    · rw [List.mem_append] at hx
      rcases hx with hx | hx
      · exact G.ok x hx
      · simp at hx; exact hx ▸ ht
    · exact G.ok x hx
  · intro x hx
    cases hft : st.far t with
    | none =>
      have hut : u ≠ t := fun e => by rw [e, hft] at hu; cases hu
      rw [relax_new hft hut] at hx ⊢
      have hxt : x ≠ t := fun e => by simp [Bfs.upd, e] at hx
      simp only [Bfs.upd, if_neg hxt] at hx ⊢
      exact G.out x hx
    | some v =>
      by_cases hv : v = Bfs.d st u + 1
      · rw [relax_same (by rw [hft, hv])] at hx ⊢
        have hxt : x ≠ t := fun e => by rw [e] at hx; rw [hft] at hx; cases hx
        simp only [Bfs.upd, if_neg hxt]
        exact G.out x hx
      · rw [relax_not (by rw [hft]; simp) (by rw [hft]; simpa using hv)] at hx ⊢
        exact G.out x hx
theorem GoodS.foldl {ok : Stt → Prop} {step : Stt → List Stt} {s : Stt} {i : Nat} {u : Stt} (add : Int → Int → Int) (l : List Stt) : ∀ (st : St Stt) (p : List Stt),
    InvIn step s st i u p → GoodS ok st → (∀ t ∈ l, t ∈ step u) → (∀ t ∈ step u, ok t) → GoodS ok (l.foldl (relax add u) st) := by
  induction l with
  | nil => intro st p I G _ _; exact G
  | cons t l ih =>
    intro st p I G h hN
    have ht := h t (by simp)
    have huf := (I.iff u).2 (List.mem_of_getElem? I.at_)
    exact ih _ _ (I.relaxed add ht) (G.relaxed add huf (hN t ht)) (fun x hx => h x (by simp [hx])) hN
theorem GoodS.start {ok : Stt → Prop} {s : Stt} (hs : ok s) : GoodS ok (init s) := by
  refine ⟨fun t n h => ?_, fun x hx => ?_, fun t h => ?_⟩
  · by_cases e : t = s
    · simp [init, e] at h; simp [init, ← h]
    · simp [init, e] at h
  · simp [init] at hx
    exact hx ▸ hs
  · by_cases e : t = s
    · simp [init, e] at h
    · simp [init, e]
/-- The search, whole. -/
theorem run_good {step : Stt → List Stt} {ok : Stt → Prop} {num : Stt → Nat} {N : Nat} (S : Setup step ok num N) (add : Int → Int → Int) (s : Stt) : ∀ m i (st : St Stt), Inv step s st i → GoodS ok st → N ≤ i + m →
    Inv step s (run add step m i st) (run add step m i st).q.length ∧ GoodS ok (run add step m i st) := by
  intro m
  induction m with
  | zero =>
    intro i st I G hm
    have h1 := G.len S I.nodup
    have h2 := I.le
    have e : st.q.length = i := by omega
    exact ⟨by show Inv step s st st.q.length; rw [e]; exact I, G⟩
  | succ m ih =>
    intro i st I G hm
    unfold run
    by_cases hi : i < st.q.length
    · rw [dif_pos hi]
      exact ih (i + 1) _ (I.process add hi) (GoodS.foldl add (step st.q[i]) st [] (I.enter hi) G (fun t ht => ht) (S.next _ (G.ok _ (List.getElem_mem hi)))) (by omega)
    · rw [dif_neg hi]
      have h2 := I.le
      have e : st.q.length = i := by omega
      exact ⟨by rw [e]; exact I, G⟩
def found (step : Stt → List Stt) (N : Nat) (s : Stt) : St Stt := run addC step N 0 (init s)
theorem found_good {step : Stt → List Stt} {ok : Stt → Prop} {num : Stt → Nat} {N : Nat} (S : Setup step ok num N) {s : Stt} (hs : ok s) : Inv step s (found step N s) (found step N s).q.length ∧ GoodS ok (found step N s) :=
  run_good S addC s N 0 (init s) (Inv.start _ _) (GoodS.start hs) (by omega)
theorem rdM {l : List Stt} {i : Nat} (h : i < l.length) : rdOf ByteArray.empty (l.map tx) (i : Int) = tx l[i] := by
  rw [rdS_get (by rw [List.length_map]; exact h), List.getElem_map]
theorem sz_le {n : Nat} (h : n ≤ 1000) : n ≤ maxLen := Nat.le_trans h (by decide)
theorem ar_j {j d n : Nat} (h : j + (d + 1) = n) : j + 1 + d = n := by omega
theorem ar_1 {c d n : Nat} (h : c + 2 * (d + 1) ≤ n) : c + 1 + 2 * d ≤ n := by omega
theorem ar_2 {c d n : Nat} (h : c + 2 * (d + 1) ≤ n) : c + 1 + 1 + 2 * d ≤ n := by omega
theorem ar_3 {c d n : Nat} (h : n ≤ c + 1 + 2 * d) : n ≤ c + 2 * (d + 1) := by omega
theorem ar_4 {c d n : Nat} (h : n ≤ c + 1 + 1 + 2 * d) : n ≤ c + 2 * (d + 1) := by omega
theorem max3 {a b c n : Nat} (h : max a (max b c) + 1 ≤ n) : ∃ k, n = k + 1 ∧ a ≤ k ∧ b ≤ k ∧ c ≤ k := ⟨n - 1, by omega, by omega, by omega, by omega⟩
def stepK (ks : List Stt) (s : Stt) : List Stt := (mvK ks s ks.length).map (flipAt s)
theorem pow10 : ∀ {n : Nat}, n ≤ 10 → 2 ^ n ≤ 1024 := fun h => Nat.pow_le_pow_right (by decide) h
theorem mvK_lt {ks : List Stt} {s : Stt} {i k : Nat} (h : k ∈ mvK ks s i) : k < i ∧ fits (ks.getD k []) s = true := by
  unfold mvK at h
  rw [List.mem_filter, List.mem_range] at h
  exact h
theorem okN_flip {n : Nat} {s : Stt} (h : okN n s) (k : Nat) : okN n (flipAt s k) := ⟨by rw [flipAt_length]; exact h.1, flipAt_ok h.2 k⟩
theorem step_lenK (ks : List Stt) (s : Stt) : (stepK ks s).length = (mvK ks s ks.length).length := by unfold stepK; rw [List.length_map]
theorem setupK {ks : List Stt} (hk : keysOk ks = true) : Setup (stepK ks) (okN ks.length) num (2 ^ ks.length) := by
  obtain ⟨⟨k1, k2⟩, k3⟩ := keys_parts hk
  refine ⟨?_, ?_, ?_, ?_, ?_, ?_⟩
  · intro s hs t ht
    obtain ⟨m, hm, rfl⟩ := List.mem_map.1 ht
    exact okN_flip hs m
  · intro s hs
    have := num_lt s
    rwa [hs.1] at this
  · intro s t hs ht e
    exact num_inj hs.2 ht.2 (by rw [hs.1, ht.1]) e
  · intro s hs
    have := hs.1
    omega
  · intro s _
    rw [step_lenK]
    have := mvK_len ks s ks.length
    omega
  · exact Nat.le_trans (pow10 k2) (by decide)
theorem rd_ints {l : List Nat} {i : Nat} (h : i < l.length) : rd (ints l) (i : Int) = ((l[i] : Nat) : Int) := by
  have hi : i < (ints l).length := by unfold ints; rw [List.length_map]; exact h
  rw [rd_get hi]
  exact List.getElem_map _
theorem ints_len (l : List Nat) : (ints l).length = l.length := by unfold ints; rw [List.length_map]
theorem stepK_get {ks : List Stt} {s : Stt} {j : Nat} (h : j < (mvK ks s ks.length).length) (h2 : j < (stepK ks s).length) : (stepK ks s)[j] = flipAt s (mvK ks s ks.length)[j] := List.getElem_map _
def foundK (ks : List Stt) (s : Stt) : St Stt := found (stepK ks) (2 ^ ks.length) s
def fz : Option Nat → Int
  | none => -1
  | some n => (n : Int)
theorem fz_neg {o : Option Nat} : fz o < 0 ↔ o = none := by
  cases o with
  | none => simp [fz]
  | some n => simp [fz]
def FarN (n : Nat) (F : List Int) (st : St Stt) : Prop := F.length = 2 ^ n ∧ ∀ s, okN n s → F.getD (num s) 0 = fz (st.far s)
theorem numN_lt {n : Nat} {s : Stt} (hs : okN n s) : num s < 2 ^ n := by
  have := num_lt s
  rwa [hs.1] at this
theorem numN_inj {n : Nat} {s t : Stt} (hs : okN n s) (ht : okN n t) (e : num s = num t) : s = t := num_inj hs.2 ht.2 (by rw [hs.1, ht.1]) e
theorem getD_set {l : List Int} {i j : Nat} {v : Int} (hi : i < l.length) : (l.set i v).getD j 0 = if i = j then v else l.getD j 0 := by
  rw [List.getD_eq_getElem?_getD, List.getElem?_set, List.getD_eq_getElem?_getD]
  by_cases e : i = j
  · rw [if_pos e, if_pos e, if_pos hi]; rfl
  · rw [if_neg e, if_neg e]
theorem FarN.set {n : Nat} {F : List Int} {st : St Stt} (h : FarN n F st) {t : Stt} (ht : okN n t) (v : Nat) (q : List Stt) (w : Stt → Int) : FarN n (F.set (num t) (v : Int)) ⟨q, Bfs.upd st.far t (some v), w⟩ := by
  refine ⟨by rw [List.length_set]; exact h.1, fun s hs => ?_⟩
  rw [getD_set (by rw [h.1]; exact numN_lt ht)]
  simp only [Bfs.upd]
  by_cases e : s = t
  · rw [if_pos e, if_pos (by rw [e])]
    rfl
  · rw [if_neg e, if_neg (fun h => e (numN_inj hs ht h.symm))]
    exact h.2 s hs
theorem rdDk (l : List Int) (i : Nat) : rd l (i : Int) = l.getD i 0 := rfl
theorem riNum {n : Nat} (hn : n ≤ 10) {s : Stt} (hs : okN n s) : Ev (fun k => spec_riNumber.f k (tx s)) ((num s : Nat) : Int) := by
  have h := riNumber (tx s) (by rw [tx_data, hs.1]; omega)
  rw [tx_data] at h
  exact h
theorem kf_l2 {ks : List Stt} (hk : keysOk ks = true) (s0 : Stt) (i : Nat) (u : Stt) (du : Nat) : ∀ (d j : Nat) (st : St Stt) (p : List Stt) (F W : List Int),
    j + d = (mvK ks u ks.length).length → InvIn (stepK ks) s0 st i u p → GoodS (okN ks.length) st → FarN ks.length F st → W.length = 2 ^ ks.length → Bfs.d st u = du →
    ∃ F' W', FarN ks.length F' (((stepK ks u).drop j).foldl (relax addC u) st) ∧ W'.length = 2 ^ ks.length ∧ ∀ R, Ev (fun k => spec_keFar.l1 k (ks.map tx) F' W' ((((stepK ks u).drop j).foldl (relax addC u) st).q.map tx) ((i + 1 : Nat) : Int)) R →
      Ev (fun k => spec_keFar.l2 k (ks.map tx) F W (st.q.map tx) (i : Int) ((num u : Nat) : Int) (ints (mvK ks u ks.length)) ((mvK ks u ks.length).length : Int) (j : Int)) R := by
  obtain ⟨⟨kl1, kl2⟩, k3⟩ := keys_parts hk
  have hp1 := pow10 kl2
  intro d
  induction d with
  | zero =>
    intro j st p F W hj I G hF hW hdu
    have hil : i < 1025 := by have h1 := G.len (setupK hk) I.nodup; have h2 := I.lt; omega
    have hd0 : (stepK ks u).drop j = [] := List.drop_eq_nil_of_le (by rw [step_lenK]; omega)
    rw [hd0]
    refine ⟨F, W, hF, hW, fun R h => ?_⟩
    refine Ev.step (fun k => ?_) h
    simp only [spec_keFar.l2]
    rw [if_neg (show ¬ (j : Int) < ((mvK ks u ks.length).length : Int) from fun h => by have := Int.ofNat_lt.1 h; omega), succ64 (by omega)]
    rfl
  | succ d ih =>
    intro j st p F W hj I G hF hW hdu
    have hjl : j < (mvK ks u ks.length).length := by omega
    obtain ⟨m, hm⟩ : ∃ m, (mvK ks u ks.length)[j] = m := ⟨_, rfl⟩
    have hmm := mvK_lt (hm ▸ List.getElem_mem hjl)
    obtain ⟨t, ht⟩ : ∃ t, flipAt u m = t := ⟨_, rfl⟩
    have hdr : (stepK ks u).drop j = t :: (stepK ks u).drop (j + 1) := by
      have hjs : j < (stepK ks u).length := by rw [step_lenK]; exact hjl
      rw [List.drop_eq_getElem_cons hjs, stepK_get hjl hjs, hm, ht]
    have htm : t ∈ stepK ks u := ht ▸ List.mem_map_of_mem (hm ▸ List.getElem_mem hjl)
    have huq : u ∈ st.q := List.mem_of_getElem? I.at_
    have hou := G.ok u huq
    have hot : okN ks.length t := ht ▸ okN_flip hou m
    have huf := (I.iff u).2 huq
    have hlen := G.len (setupK hk) I.nodup
    have hil : i < 1025 := by have h2 := I.lt; omega
    have hqlt : (i : Int) < ((st.q.map tx).length : Int) := by rw [List.length_map]; exact Int.ofNat_lt.2 I.lt
    have hq43 : (st.q.map tx).length < 8796093022208 := by rw [List.length_map]; omega
    have hj62 : j < 4611686018427387904 := by have := mvK_len ks u ks.length; omega
    have hdl := G.d huf
    have hdu62 : du < 4611686018427387904 := by rw [hdu] at hdl; omega
    have hqi : st.q[i]'I.lt = u := by have := I.at_; rw [List.getElem?_eq_getElem I.lt] at this; exact Option.some.inj this
    have hrd : rdOf ByteArray.empty (st.q.map tx) (i : Int) = tx u := by rw [rdM I.lt, hqi]
    have hmv : spec_riMove.f (tx u) ((m : Nat) : Int) = some (tx t) := by rw [← ht]; exact riMove u (by have := hou.1; omega) hou.2 m (by rw [hou.1]; exact hmm.1)
    have hnum := riNum kl2 hot
    have hnt : ((num t : Nat) : Int) < (F.length : Int) := by rw [hF.1]; exact Int.ofNat_lt.2 (numN_lt hot)
    have hnu : ((num u : Nat) : Int) < (F.length : Int) := by rw [hF.1]; exact Int.ofNat_lt.2 (numN_lt hou)
    have hwt : ((num t : Nat) : Int) < (W.length : Int) := by rw [hW]; exact Int.ofNat_lt.2 (numN_lt hot)
    have hwu : ((num u : Nat) : Int) < (W.length : Int) := by rw [hW]; exact Int.ofNat_lt.2 (numN_lt hou)
    have hsj : wrap64 ((j : Int) + 1) = ((j + 1 : Nat) : Int) := succ64 hj62
    have hsd : wrap64 ((du : Int) + 1) = ((du + 1 : Nat) : Int) := succ64 hdu62
    obtain ⟨v0, hv0⟩ := Option.isSome_iff_exists.1 huf
    have hvd : v0 = du := by rw [← hdu]; simp [Bfs.d, hv0]
    rw [hvd] at hv0
    have hrF : rd F ((num t : Nat) : Int) = fz (st.far t) := hF.2 t hot
    have hrU : rd F ((num u : Nat) : Int) = (du : Int) := by
      have h := hF.2 u hou
      rw [hv0] at h
      exact h
    have I2 := I.relaxed addC htm
    have G2 := G.relaxed addC huf hot
    have hJ : (j : Int) < ((mvK ks u ks.length).length : Int) := Int.ofNat_lt.2 hjl
    have hJ2 : (j : Int) < ((ints (mvK ks u ks.length)).length : Int) := by rw [ints_len]; exact hJ
    rw [hdr]
    simp only [List.foldl_cons]
    cases hft : st.far t with
    | none =>
      have hut : u ≠ t := fun e => by rw [e, hft] at huf; cases huf
      have hdu2 : Bfs.d (relax addC u st t) u = du := by rw [relax_new hft hut, d_upd_ne hut]; exact hdu
      rw [relax_new hft hut] at I2 G2 hdu2 ⊢
      have hF2 := FarN.set hF hot (Bfs.d st u + 1) (st.q ++ [t]) (Bfs.upd st.ways t (addC (st.ways t) (st.ways u)))
      have hy1 : rd (F.set (num t) ((du + 1 : Nat) : Int)) ((num t : Nat) : Int) = ((du + 1 : Nat) : Int) := by
        rw [rdDk, getD_set (by rw [hF.1]; exact numN_lt hot), if_pos rfl]
      have hy2 : rd (F.set (num t) ((du + 1 : Nat) : Int)) ((num u : Nat) : Int) = (du : Int) := by
        rw [rdDk, getD_set (by rw [hF.1]; exact numN_lt hot), if_neg (fun e => hut (numN_inj hou hot e.symm))]
        exact hrU
      obtain ⟨F', W', hF', hW', K⟩ := ih (j + 1) _ _ _ (W.set (num t) (wrap64 (rd W ((num t : Nat) : Int) + rd W ((num u : Nat) : Int)))) (ar_j hj) I2 G2 hF2 (by rw [List.length_set]; exact hW) hdu2
      refine ⟨F', W', hF', hW', fun R h => ?_⟩
      have e3 := K R h
      rw [List.map_append, hdu] at e3
      refine ev_num hnum e3 (fun k hk => ?_)
      simp only [spec_keFar.l2]
      rw [if_pos hJ, if_pos (Int.natCast_nonneg _), if_pos hJ2, if_pos (Int.natCast_nonneg _), if_pos hqlt, hrd, rd_ints hjl, hm, hmv, obind, hk, obind, if_pos (Int.natCast_nonneg _), if_pos hnt, hrF, hft, if_pos (by decide), if_pos (Int.natCast_nonneg _), if_pos hnu, obind, if_pos hq43, obind, hrU, hsd, Int.toNat_natCast, hy1, hy2, hsd, if_pos rfl, if_pos hwt, if_pos hwu, hsj]
      rfl
    | some v =>
      have hneg : ¬ fz (some v) < 0 := by rw [fz_neg]; simp
      have hF2 : FarN ks.length F (relax addC u st t) := ⟨hF.1, fun s hs => by rw [hF.2 s hs, (relax_q_far addC u st t).2, hft]; rfl⟩
      have hq2 : (relax addC u st t).q = st.q := by rw [(relax_q_far addC u st t).1, hft]; rfl
      have hdu2 : Bfs.d (relax addC u st t) u = du := by unfold Bfs.d; rw [(relax_q_far addC u st t).2, hft]; exact hdu
      by_cases hc : fz (some v) = ((du + 1 : Nat) : Int)
      · obtain ⟨F', W', hF', hW', K⟩ := ih (j + 1) _ _ _ (W.set (num t) (wrap64 (rd W ((num t : Nat) : Int) + rd W ((num u : Nat) : Int)))) (ar_j hj) I2 G2 hF2 (by rw [List.length_set]; exact hW) hdu2
        refine ⟨F', W', hF', hW', fun R h => ?_⟩
        have e3 := K R h
        rw [hq2] at e3
        refine ev_num hnum e3 (fun k hk => ?_)
        simp only [spec_keFar.l2]
        rw [if_pos hJ, if_pos (Int.natCast_nonneg _), if_pos hJ2, if_pos (Int.natCast_nonneg _), if_pos hqlt, hrd, rd_ints hjl, hm, hmv, obind, hk, obind, if_pos (Int.natCast_nonneg _), if_pos hnt, hrF, hft, if_neg hneg, if_pos (Int.natCast_nonneg _), if_pos hnu, hrU, hsd, if_pos hc, if_pos hwt, if_pos hwu, hsj, Int.toNat_natCast]
      · obtain ⟨F', W', hF', hW', K⟩ := ih (j + 1) _ _ _ W (ar_j hj) I2 G2 hF2 hW hdu2
        refine ⟨F', W', hF', hW', fun R h => ?_⟩
        have e3 := K R h
        rw [hq2] at e3
        refine ev_num hnum e3 (fun k hk => ?_)
        simp only [spec_keFar.l2]
        rw [if_pos hJ, if_pos (Int.natCast_nonneg _), if_pos hJ2, if_pos (Int.natCast_nonneg _), if_pos hqlt, hrd, rd_ints hjl, hm, hmv, obind, hk, obind, if_pos (Int.natCast_nonneg _), if_pos hnt, hrF, hft, if_neg hneg, if_pos (Int.natCast_nonneg _), if_pos hnu, hrU, hsd, if_neg hc, hsj]
theorem kf_l1 {ks : List Stt} (hk : keysOk ks = true) (s0 : Stt) : ∀ (m i : Nat) (st : St Stt) (F W : List Int), Inv (stepK ks) s0 st i → GoodS (okN ks.length) st → FarN ks.length F st → W.length = 2 ^ ks.length → 2 ^ ks.length ≤ i + m →
    ∃ F' W', FarN ks.length F' (run addC (stepK ks) m i st) ∧ Ev (fun k => spec_keFar.l1 k (ks.map tx) F W (st.q.map tx) (i : Int)) (F', W') := by
  obtain ⟨⟨kl1, kl2⟩, k3⟩ := keys_parts hk
  have hp1 := pow10 kl2
  intro m
  induction m with
  | zero =>
    intro i st F W I G hF hW hN
    have h1 := G.len (setupK hk) I.nodup
    refine ⟨F, W, hF, Ev.step (f := fun _ => some (F, W)) (fun k => ?_) (Ev.now _)⟩
    simp only [spec_keFar.l1]
    rw [List.length_map, if_neg (fun h => by have := Int.ofNat_lt.1 h; omega)]
  | succ m ih =>
    intro i st F W I G hF hW hN
    by_cases hi : i < st.q.length
    · obtain ⟨u, hu⟩ : ∃ u, st.q[i] = u := ⟨_, rfl⟩
      have hin := I.enter hi
      rw [hu] at hin
      have hou : okN ks.length u := hu ▸ G.ok _ (List.getElem_mem hi)
      have I2 := I.process addC hi
      rw [hu] at I2
      have G2 : GoodS (okN ks.length) (process addC (stepK ks) st u) := GoodS.foldl addC (stepK ks u) st [] hin G (fun t ht => ht) ((setupK hk).next u hou)
      obtain ⟨F1, W1, hF1, hW1, K⟩ := kf_l2 hk s0 i u (Bfs.d st u) (mvK ks u ks.length).length 0 st [] F W (Nat.zero_add _) hin G hF hW rfl
      rw [List.drop_zero] at hF1 K
      obtain ⟨F', W', hF', e⟩ := ih (i + 1) _ F1 W1 I2 G2 hF1 hW1 (by omega)
      have e2 := K _ e
      have hrun : run addC (stepK ks) (m + 1) i st = run addC (stepK ks) m (i + 1) (process addC (stepK ks) st u) := by
        conv => lhs; unfold run
        rw [dif_pos hi, hu]
      rw [hrun]
      refine ⟨F', W', hF', ?_⟩
      obtain ⟨K1, g1⟩ := riNum kl2 hou
      obtain ⟨K2, g2⟩ := keMoves hk hou
      obtain ⟨K3, g3⟩ := e2
      have g1 : ∀ k, K1 ≤ k → spec_riNumber.f k (tx u) = some ((num u : Nat) : Int) := g1
      have g2 : ∀ k, K2 ≤ k → spec_keMoves.f k (ks.map tx) (tx u) = some (ints (mvK ks u ks.length)) := g2
      refine ⟨max K1 (max K2 K3) + 1, fun n hn => ?_⟩
      obtain ⟨k, rfl, k1, k2, k3⟩ := max3 hn
      simp only [spec_keFar.l1]
      rw [if_pos (show (i : Int) < ((st.q.map tx).length : Int) by rw [List.length_map]; exact Int.ofNat_lt.2 hi), if_pos (Int.natCast_nonneg _), rdM hi, hu, g1 k k1, obind, g2 k k2, obind, ints_len]
      exact g3 k k3
    · have hrun : run addC (stepK ks) (m + 1) i st = st := by
        conv => lhs; unfold run
        rw [dif_neg hi]
      rw [hrun]
      refine ⟨F, W, hF, Ev.step (f := fun _ => some (F, W)) (fun k => ?_) (Ev.now _)⟩
      simp only [spec_keFar.l1]
      rw [List.length_map, if_neg (fun h => hi (Int.ofNat_lt.1 h))]
theorem kf_l0 {ks : List Stt} (hk : keysOk ks = true) {s : Stt} (hs : okN ks.length s) (R : List Int × List Int)
    (h : Ev (fun k => spec_keFar.l1 k (ks.map tx) ((List.replicate (2 ^ ks.length) (-1 : Int)).set (num s) 0) ((List.replicate (2 ^ ks.length) (0 : Int)).set (num s) 1) [tx s] (0 : Int)) R) : ∀ (d i : Nat) (acc : List Int), i + d = 2 ^ ks.length → acc.length = 2 ^ ks.length → acc.take i = List.replicate i (-1) →
    Ev (fun k => spec_keFar.l0 k (ks.map tx) (tx s) acc (List.replicate (2 ^ ks.length) (0 : Int)) ((2 ^ ks.length : Nat) : Int) (i : Int)) R := by
  obtain ⟨⟨kl1, kl2⟩, k3⟩ := keys_parts hk
  have hp := pow10 kl2
  have hlt := numN_lt hs
  generalize 2 ^ ks.length = N at *
  intro d
  induction d with
  | zero =>
    intro i acc hi hl ht
    obtain rfl : i = N := by omega
    rw [List.take_of_length_le (by omega)] at ht
    subst ht
    refine ev_num (riNum kl2 hs) h (fun k hk => ?_)
    simp only [spec_keFar.l0]
    rw [if_neg (Int.lt_irrefl _), hk, obind, if_pos (Int.natCast_nonneg _), if_pos (by rw [List.length_replicate]; exact Int.ofNat_lt.2 hlt), if_pos (by rw [List.length_replicate]; exact Int.ofNat_lt.2 hlt), Int.toNat_natCast]
  | succ d ih =>
    intro i acc hi hl ht
    have hil : i < acc.length := by omega
    refine Ev.step (fun k => ?_) (ih (i + 1) (acc.set i (-1)) (by omega) (by rw [List.length_set]; exact hl) ?_)
    · simp only [spec_keFar.l0]
      rw [if_pos (Int.ofNat_lt.2 (by omega)), if_pos (Int.natCast_nonneg _), if_pos (Int.ofNat_lt.2 hil), Int.toNat_natCast, succ64 (by omega)]
    · rw [List.take_succ_eq_append_getElem (by rw [List.length_set]; exact hil), List.take_set_of_le (Nat.le_refl i), ht, List.getElem_set_self, List.replicate_succ']
/-- What the reference's search finds. -/
theorem keFar {ks : List Stt} (hk : keysOk ks = true) {s : Stt} (hs : okN ks.length s) : ∃ F W, FarN ks.length F (foundK ks s) ∧ Ev (fun k => spec_keFar.f k (ks.map tx) (tx s)) (F, W) := by
  obtain ⟨⟨kl1, kl2⟩, k3⟩ := keys_parts hk
  have hp := pow10 kl2
  have hlt := numN_lt hs
  have hF0 : FarN ks.length ((List.replicate (2 ^ ks.length) (-1 : Int)).set (num s) 0) (init s) := by
    refine ⟨by rw [List.length_set, List.length_replicate], fun t ht => ?_⟩
    rw [getD_set (by rw [List.length_replicate]; exact hlt)]
    by_cases e : t = s
    · rw [if_pos (by rw [e])]
      simp [init, e, fz]
    · rw [if_neg (fun h => e (numN_inj ht hs h.symm))]
      have hl := numN_lt ht
      rw [List.getD_eq_getElem?_getD, List.getElem?_replicate, if_pos hl]
      simp [init, e, fz]
  obtain ⟨F, W, hF, e⟩ := kf_l1 hk s (2 ^ ks.length) 0 (init s) _ ((List.replicate (2 ^ ks.length) (0 : Int)).set (num s) 1) (Inv.start _ _) (GoodS.start hs) hF0 (by rw [List.length_set, List.length_replicate]) (by omega)
  refine ⟨F, W, hF, ?_⟩
  have e0 := kf_l0 hk hs _ e (2 ^ ks.length) 0 (List.replicate (2 ^ ks.length) 0) (Nat.zero_add _) (List.length_replicate ..) rfl
  unfold spec_keFar.f
  have hsh : shl .i64 1 ((tx s).size : Int) = ((2 ^ ks.length : Nat) : Int) := by rw [tx_size, hs.1]; exact shl_one ks.length (by omega)
  refine Ev.congr (fun k => ?_) e0
  rw [hsh, if_pos (Int.natCast_nonneg _), Int.toNat_natCast, if_pos (by omega), obind, List.length_replicate]
  rfl

end Go.Proofs.YtjlemddnkpejmaaDoor.Lem
