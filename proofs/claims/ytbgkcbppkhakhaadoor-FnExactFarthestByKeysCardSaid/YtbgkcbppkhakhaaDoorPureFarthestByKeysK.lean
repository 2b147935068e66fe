/-
  The farthest state by keys: the law holds.
-/
import Derived.Test.YtbgkcbppkhakhaaDoorLemKeyLawK
import Derived.Lib.LazyBuf
namespace Go.Proofs.YtbgkcbppkhakhaaDoor.Lem
open Go.RowKit Go.Proofs.YtbgkcbppkhakhaaDoor.PK Go.Proofs.YtbgkcbppkhakhaaDoorW.PrintWords Go.Proofs.YtbgkcbppkhakhaaDoorW.PrintLast Go.Proofs.YtbgkcbppkhakhaaDoorW.PrintMore Go.Proofs.YtbgkcbppkhakhaaDoor.Ring Go.Proofs.YtbgkcbppkhakhaaDoor.Bfs
set_option linter.unusedVariables false
set_option linter.unusedSimpArgs false

theorem riState_l0 (r n : Nat) (hr : r ≤ 60) (hn : n < 4611686018427387904) : ∀ (d j k : Nat), j ≤ r → r - j = d → d < k →
    spec_riState.l0 k (r : Int) (n : Int) ⟨(stOf j n).toArray⟩ (j : Int) = some ⟨(stOf r n).toArray⟩ := by
  intro d
  induction d with
  | zero =>
    intro j k hj hd hk
    obtain ⟨k, rfl⟩ : ∃ j, k = j + 1 := ⟨k - 1, by omega⟩
    have : j = r := by omega
    subst this
    simp only [spec_riState.l0]
    rw [if_neg (by omega)]
  | succ d ih =>
    intro j k hj hd hk
    obtain ⟨k, rfl⟩ : ∃ j, k = j + 1 := ⟨k - 1, by omega⟩
    have ew : wrap64 ((j : Int) + 1) = ((j + 1 : Nat) : Int) := by rw [w64 (by omega) (by omega)]; omega
    have e := ih (j + 1) k (by omega) (by omega) (by omega)
    simp only [spec_riState.l0]
    rw [if_pos (by omega), if_pos (by omega), ew, if_pos (by omega), shr_nat _ _ (by omega), shr_nat _ _ (by omega), and_one _ (div_lt_big n j hn), and_one _ (div_lt_big n (j + 1) hn)]
    have hsz : (⟨(stOf j n).toArray⟩ : ByteArray).size + 1 ≤ 9223372036854775807 := by rw [size_eq]; simp [stOf_length]; omega
    rw [if_pos hsz, append_one, append_one]
    rw [stOf_take] at e
    unfold sign at e
    by_cases h : n / 2 ^ j % 2 = n / 2 ^ (j + 1) % 2
    · rw [if_pos (by omega)]
      rw [if_pos h] at e
      exact e
    · rw [if_neg (by omega)]
      rw [if_neg h] at e
      rw [if_pos hsz]
      exact e
theorem riState (r n : Nat) (hr : r ≤ 60) (hn : n < 4611686018427387904) : Ev (fun k => spec_riState.f k (r : Int) (n : Int)) ⟨(stOf r n).toArray⟩ :=
  Ev.of (k := r + 1) (fun k => spec_riState.mono _ _ k) (riState_l0 r n hr hn r 0 (r + 1) (by omega) (by omega) (by omega))

/-- A state read as a number from the front. -/
def val : Stt → Nat
  | [] => 0
  | c :: l => (if c = 49 then 2 ^ l.length else 0) + val l
theorem val_cons (c : UInt8) (l : Stt) : val (c :: l) = (if c = 49 then 2 ^ l.length else 0) + val l := rfl
theorem val_lt : ∀ l, val l < 2 ^ l.length
  | [] => by decide
  | c :: l => by
    have h := val_lt l
    rw [List.length_cons, Nat.pow_succ]
    unfold val
    split <;> omega
theorem val_inj : ∀ {a b : Stt}, a.all okc = true → b.all okc = true → a.length = b.length → val a = val b → a = b
  | [], [], _, _, _, _ => rfl
  | [], _ :: _, _, _, h, _ => by simp at h
  | _ :: _, [], _, _, h, _ => by simp at h
  | c :: a, d :: b, ha, hb, hl, hv => by
    simp only [List.all_cons, Bool.and_eq_true] at ha hb
    simp only [List.length_cons, Nat.add_right_cancel_iff] at hl
    have h1 := val_lt a
    have h2 := val_lt b
    unfold val at hv
    rw [hl] at h1 hv
    have hcd : c = d := by
      rcases okc_cases ha.1 with rfl | rfl <;> rcases okc_cases hb.1 with rfl | rfl
      · rfl
      · rw [if_neg (by decide), if_pos rfl] at hv; omega
      · rw [if_pos rfl, if_neg (by decide)] at hv; omega
      · rfl
    subst hcd
    rw [val_inj ha.2 hb.2 hl (by omega)]
theorem less_list : ∀ {a b : Stt}, a.all okc = true → b.all okc = true → a.length = b.length → Op.bytesLess a b = decide (val a < val b)
  | [], [], _, _, _ => by simp [Op.bytesLess, val]
  | [], _ :: _, _, _, h => by simp at h
  | _ :: _, [], _, _, h => by simp at h
  | c :: a, d :: b, ha, hb, hl => by
    simp only [List.all_cons, Bool.and_eq_true] at ha hb
    simp only [List.length_cons, Nat.add_right_cancel_iff] at hl
    have h1 := val_lt a
    have h2 := val_lt b
    rw [hl] at h1
    rw [Op.bytesLess, less_list ha.2 hb.2 hl, val_cons, val_cons, hl]
    rcases okc_cases ha.1 with rfl | rfl <;> rcases okc_cases hb.1 with rfl | rfl
    · simp
    · rw [if_neg (by decide), if_pos rfl, decide_eq_true (show 0 + val a < 2 ^ b.length + val b by omega)]
      rfl
    · rw [if_pos rfl, if_neg (by decide), decide_eq_false (show ¬ 2 ^ b.length + val a < 0 + val b by omega)]
      rfl
    · rw [if_pos rfl, decide_eq_false (show ¬ (49 : UInt8) < 49 by decide)]
      simp
theorem less_val {n : Nat} {s t : Stt} (hs : okN n s) (ht : okN n t) : Op.bytesLess (tx s).toList (tx t).toList = decide (val s < val t) := by
  rw [Go.Lib.toList_data, Go.Lib.toList_data, tx_data, tx_data]
  exact less_list hs.2 ht.2 (by rw [hs.1, ht.1])
def wt (st : St Stt) (s : Stt) : Int := fz (st.far s)
def bet2 (st : St Stt) (s t : Stt) : Prop := wt st t < wt st s ∨ (wt st t = wt st s ∧ val s ≤ val t)
theorem bet2.trans {st : St Stt} {a b c : Stt} (h1 : bet2 st a b) (h2 : bet2 st b c) : bet2 st a c := by unfold bet2 at *; omega
theorem bet2.refl (st : St Stt) (a : Stt) : bet2 st a a := by unfold bet2; omega
theorem impl_far_l0 {n : Nat} (hn : n ≤ 10) {st : St Stt} (hok : ∀ x ∈ st.q, okN n x) (hf : ∀ x ∈ st.q, (fB st (tx x)).getD 0 = wt st x) (hlen : st.q.length ≤ 1000000) : ∀ d i b, i + d = st.q.length → b ∈ st.q → (∀ j (hj : j < st.q.length), j < i → bet2 st b st.q[j]) →
    ∃ c, c ∈ st.q ∧ (∀ x ∈ st.q, bet2 st c x) ∧ Ev (fun k => impl_reached_farthest.l0 (st.q.map tx) (fB st) k (tx b) (i : Int)) (tx c, wt st c) := by
  intro d
  induction d with
  | zero =>
    intro i b hi hb hj
    refine ⟨b, hb, fun x hx => ?_, Ev.step (f := fun _ => some (tx b, wt st b)) (fun k => ?_) (Ev.now _)⟩
    · obtain ⟨j, hjl, rfl⟩ := List.getElem_of_mem hx
      exact hj j hjl (by omega)
    · simp only [impl_reached_farthest.l0]
      rw [List.length_map, if_neg (fun h => by have := Int.ofNat_lt.1 h; omega), if_pos (ok_smallK hn (hok b hb)), hf b hb]
  | succ d ih =>
    intro i b hi hb hj
    have hil : i < st.q.length := by omega
    obtain ⟨u, hu⟩ : ∃ u, st.q[i] = u := ⟨_, rfl⟩
    have huq : u ∈ st.q := hu ▸ List.getElem_mem hil
    have hsi : wrap64 ((i : Int) + 1) = ((i + 1 : Nat) : Int) := succ64 (by omega)
    have hless := less_val (hok u huq) (hok b hb)
    have e0 : ∀ k, impl_reached_farthest.l0 (st.q.map tx) (fB st) (k + 1) (tx b) (i : Int) = (if wt st u > wt st b then impl_reached_farthest.l0 (st.q.map tx) (fB st) k (tx u) ((i + 1 : Nat) : Int) else (if wt st u = wt st b then (if decide (val u < val b) = true then impl_reached_farthest.l0 (st.q.map tx) (fB st) k (tx u) ((i + 1 : Nat) : Int) else impl_reached_farthest.l0 (st.q.map tx) (fB st) k (tx b) ((i + 1 : Nat) : Int)) else impl_reached_farthest.l0 (st.q.map tx) (fB st) k (tx b) ((i + 1 : Nat) : Int))) := by
      intro k
      simp only [impl_reached_farthest.l0]
      rw [if_pos (show (i : Int) < ((st.q.map tx).length : Int) by rw [List.length_map]; exact Int.ofNat_lt.2 hil), if_pos (Int.natCast_nonneg _), rdM hil, hu, if_pos ⟨ok_smallK hn (hok u huq), ok_smallK hn (hok b hb)⟩, hf u huq, hf b hb, hless, hsi]
    have take : bet2 st u b → (∀ k, impl_reached_farthest.l0 (st.q.map tx) (fB st) (k + 1) (tx b) (i : Int) = impl_reached_farthest.l0 (st.q.map tx) (fB st) k (tx u) ((i + 1 : Nat) : Int)) → (∃ c, c ∈ st.q ∧ (∀ x ∈ st.q, bet2 st c x) ∧ Ev (fun k => impl_reached_farthest.l0 (st.q.map tx) (fB st) k (tx b) (i : Int)) (tx c, wt st c)) := fun hbt he => by
      obtain ⟨c, hc, h2, h3⟩ := ih (i + 1) u (by omega) huq (fun j hjl hji => by
        by_cases e : j = i
        · subst e; rw [hu]; exact bet2.refl _ _
        · exact hbt.trans (hj j hjl (by omega)))
      exact ⟨c, hc, h2, Ev.step he h3⟩
    have keep : bet2 st b u → (∀ k, impl_reached_farthest.l0 (st.q.map tx) (fB st) (k + 1) (tx b) (i : Int) = impl_reached_farthest.l0 (st.q.map tx) (fB st) k (tx b) ((i + 1 : Nat) : Int)) → (∃ c, c ∈ st.q ∧ (∀ x ∈ st.q, bet2 st c x) ∧ Ev (fun k => impl_reached_farthest.l0 (st.q.map tx) (fB st) k (tx b) (i : Int)) (tx c, wt st c)) := fun hbt he => by
      obtain ⟨c, hc, h2, h3⟩ := ih (i + 1) b (by omega) hb (fun j hjl hji => by
        by_cases e : j = i
        · subst e; rw [hu]; exact hbt
        · exact hj j hjl (by omega))
      exact ⟨c, hc, h2, Ev.step he h3⟩
    by_cases c1 : wt st u > wt st b
    · exact take (Or.inl c1) (fun k => by rw [e0 k, if_pos c1])
    · by_cases c2 : wt st u = wt st b
      · by_cases c3 : val u < val b
        · exact take (Or.inr ⟨c2.symm, Nat.le_of_lt c3⟩) (fun k => by rw [e0 k, if_neg c1, if_pos c2, if_pos (decide_eq_true c3)])
        · exact keep (Or.inr ⟨c2, Nat.le_of_not_lt c3⟩) (fun k => by rw [e0 k, if_neg c1, if_pos c2, if_neg (by rw [decide_eq_true_eq]; exact c3)])
      · exact keep (Or.inl (Int.lt_iff_le_and_ne.2 ⟨Int.not_lt.1 c1, c2⟩)) (fun k => by rw [e0 k, if_neg c1, if_neg c2])
theorem stOf_okN {n m : Nat} : okN n (stOf n m) := ⟨stOf_length n m, stOf_ok n m⟩
theorem spec_far_l0 {n : Nat} (hn : n ≤ 10) {F : List Int} {st : St Stt} (hF : FarN n F st) (hp : ∀ x ∈ st.q, 0 ≤ wt st x) (hi9 : ∀ x, okN n x → wt st x ≠ -1 → x ∈ st.q) (a1 : ByteArray) (ha1 : a1.size = n) : ∀ d i b, i + d = 2 ^ n → okN n b → b ∈ st.q → (∀ j, j < i → bet2 st b (stOf n j)) →
    ∃ c, okN n c ∧ c ∈ st.q ∧ (∀ j, j < 2 ^ n → bet2 st c (stOf n j)) ∧ Ev (fun k => spec_FarthestByKeys.l0 k a1 (tx b) (wt st b) F ((2 ^ n : Nat) : Int) (i : Int)) (tx c, wt st c, true) := by
  have hpw := pow10 hn
  intro d
  induction d with
  | zero =>
    intro i b hi hob hb hj
    obtain rfl : i = 2 ^ n := by omega
    refine ⟨b, hob, hb, hj, Ev.step (f := fun _ => some (tx b, wt st b, true)) (fun k => ?_) (Ev.now _)⟩
    simp only [spec_FarthestByKeys.l0]
    rw [if_neg (Int.lt_irrefl _)]
  | succ d ih =>
    intro i b hi hob hb hj
    have hil : i < 2 ^ n := by omega
    obtain ⟨u, hu⟩ : ∃ u, stOf n i = u := ⟨_, rfl⟩
    have hou : okN n u := hu ▸ stOf_okN
    have hnu : num u = i := by rw [← hu]; exact num_stOf n i hil
    have hFu : rd F (i : Int) = wt st u := by have := hF.2 u hou; rw [hnu] at this; exact this
    have hsi : wrap64 ((i : Int) + 1) = ((i + 1 : Nat) : Int) := succ64 (by omega)
    have hst := riState n i (by omega) (by omega)
    have hst2 : Ev (fun k => spec_riState.f k (n : Int) (i : Int)) (tx u) := by rw [← hu]; exact hst
    have hless := less_val hou hob
    have e0 : ∀ k, spec_riState.f k (n : Int) (i : Int) = some (tx u) → spec_FarthestByKeys.l0 (k + 1) a1 (tx b) (wt st b) F ((2 ^ n : Nat) : Int) (i : Int) = (if wt st u > wt st b then spec_FarthestByKeys.l0 k a1 (tx u) (wt st u) F ((2 ^ n : Nat) : Int) ((i + 1 : Nat) : Int) else (if wt st u = wt st b then (if decide (val u < val b) = true then spec_FarthestByKeys.l0 k a1 (tx u) (wt st u) F ((2 ^ n : Nat) : Int) ((i + 1 : Nat) : Int) else spec_FarthestByKeys.l0 k a1 (tx b) (wt st b) F ((2 ^ n : Nat) : Int) ((i + 1 : Nat) : Int)) else spec_FarthestByKeys.l0 k a1 (tx b) (wt st b) F ((2 ^ n : Nat) : Int) ((i + 1 : Nat) : Int))) := by
      intro k hk
      simp only [spec_FarthestByKeys.l0]
      rw [if_pos (Int.ofNat_lt.2 hil), if_pos (Int.natCast_nonneg _), if_pos (by rw [hF.1]; exact Int.ofNat_lt.2 hil), ha1, hk, obind, hFu, hless, hsi]
    have hb0 := hp b hb
    have G : ∀ P : Prop, P → P := fun _ h => h
    have take : bet2 st u b → u ∈ st.q → (∀ k, spec_riState.f k (n : Int) (i : Int) = some (tx u) → spec_FarthestByKeys.l0 (k + 1) a1 (tx b) (wt st b) F ((2 ^ n : Nat) : Int) (i : Int) = spec_FarthestByKeys.l0 k a1 (tx u) (wt st u) F ((2 ^ n : Nat) : Int) ((i + 1 : Nat) : Int)) → ∃ c, okN n c ∧ c ∈ st.q ∧ (∀ j, j < 2 ^ n → bet2 st c (stOf n j)) ∧ Ev (fun k => spec_FarthestByKeys.l0 k a1 (tx b) (wt st b) F ((2 ^ n : Nat) : Int) (i : Int)) (tx c, wt st c, true) := fun hbt huq he => by
      obtain ⟨c, hc1, hc, h2, h3⟩ := ih (i + 1) u (by omega) hou huq (fun j hji => by
        by_cases e : j = i
        · subst e; rw [hu]; exact bet2.refl _ _
        · exact hbt.trans (hj j (by omega)))
      exact ⟨c, hc1, hc, h2, ev_num hst2 h3 he⟩
    have keep : bet2 st b u → (∀ k, spec_riState.f k (n : Int) (i : Int) = some (tx u) → spec_FarthestByKeys.l0 (k + 1) a1 (tx b) (wt st b) F ((2 ^ n : Nat) : Int) (i : Int) = spec_FarthestByKeys.l0 k a1 (tx b) (wt st b) F ((2 ^ n : Nat) : Int) ((i + 1 : Nat) : Int)) → ∃ c, okN n c ∧ c ∈ st.q ∧ (∀ j, j < 2 ^ n → bet2 st c (stOf n j)) ∧ Ev (fun k => spec_FarthestByKeys.l0 k a1 (tx b) (wt st b) F ((2 ^ n : Nat) : Int) (i : Int)) (tx c, wt st c, true) := fun hbt he => by
      obtain ⟨c, hc1, hc, h2, h3⟩ := ih (i + 1) b (by omega) hob hb (fun j hji => by
        by_cases e : j = i
        · subst e; rw [hu]; exact hbt
        · exact hj j (by omega))
      exact ⟨c, hc1, hc, h2, ev_num hst2 h3 he⟩
    by_cases c1 : wt st u > wt st b
    · exact take (Or.inl c1) (hi9 u hou (by omega)) (fun k hk => by rw [e0 k hk, if_pos c1])
    · by_cases c2 : wt st u = wt st b
      · by_cases c3 : val u < val b
        · exact take (Or.inr ⟨c2.symm, Nat.le_of_lt c3⟩) (hi9 u hou (by omega)) (fun k hk => by rw [e0 k hk, if_neg c1, if_pos c2, if_pos (decide_eq_true c3)])
        · exact keep (Or.inr ⟨c2, Nat.le_of_not_lt c3⟩) (fun k hk => by rw [e0 k hk, if_neg c1, if_pos c2, if_neg (by rw [decide_eq_true_eq]; exact c3)])
      · exact keep (Or.inl (Int.lt_iff_le_and_ne.2 ⟨Int.not_lt.1 c1, c2⟩)) (fun k hk => by rw [e0 k hk, if_neg c1, if_neg c2])
theorem both_far (ks : List Stt) (s : Stt) (hn : ks.length ≤ 1048576) : ∃ R, Ev (fun k => spec_FarthestByKeys.f k (ks.map tx) (tx s)) R ∧ Ev (fun k => impl_FarthestByKeys.f k (ks.map tx) (tx s)) R := by
  have h1 := keAsked ks s hn
  have h2 := keyed_one ks s hn
  cases ha : askK ks s with
  | false =>
    rw [ha] at h1 h2
    exact ⟨(⟨#[]⟩, 0, false), by unfold spec_FarthestByKeys.f; exact Ev.bind h1 (Ev.congr (fun k => if_neg (by simp)) (Ev.now _)), by unfold impl_FarthestByKeys.f; exact Ev.bind h2 (Ev.congr (fun k => if_neg (by simp)) (Ev.now _))⟩
  | true =>
    rw [ha] at h1 h2
    obtain ⟨hk, hs⟩ := ask_parts ha
    have hn10 := (keys_parts hk).1.2
    have hpw := pow10 hn10
    obtain ⟨F, W, hF, h⟩ := keFar hk hs
    obtain ⟨hI, hG⟩ := found_good (setupK hk) hs
    have hI : Inv (stepK ks) s (foundK ks s) (foundK ks s).q.length := hI
    have hG : GoodS (okN ks.length) (foundK ks s) := hG
    have hrun := search_runK hk s hs
    have hlen := hG.len (setupK hk) hI.nodup
    generalize foundK ks s = st at hF h hI hG hrun hlen
    have hsq : s ∈ st.q := (hI.iff s).1 (by rw [hI.zero]; rfl)
    have hws : wt st s = 0 := by unfold wt; rw [hI.zero]; rfl
    have hf : ∀ x ∈ st.q, (fB st (tx x)).getD 0 = wt st x := by
      intro x hx
      obtain ⟨v, hv⟩ := Option.isSome_iff_exists.1 ((hI.iff x).2 hx)
      rw [fB_tx]
      unfold wt
      rw [hv]
      rfl
    have hp : ∀ x ∈ st.q, 0 ≤ wt st x := by
      intro x hx
      obtain ⟨v, hv⟩ := Option.isSome_iff_exists.1 ((hI.iff x).2 hx)
      unfold wt
      rw [hv]
      exact Int.natCast_nonneg v
    have hi9 : ∀ x, okN ks.length x → wt st x ≠ -1 → x ∈ st.q := by
      intro x _ hx
      apply (hI.iff x).1
      unfold wt at hx
      cases e : st.far x with
      | none => rw [e] at hx; exact absurd rfl hx
      | some v => rfl
    obtain ⟨b, hob, hbq, hb2, hb3⟩ := spec_far_l0 hn10 hF hp hi9 (tx s) (by rw [tx_size, hs.1]) (2 ^ ks.length) 0 s (Nat.zero_add _) hs hsq (fun j hj => absurd hj (Nat.not_lt_zero _))
    obtain ⟨x0, hx0⟩ : ∃ x, st.q[0]'hI.pos = x := ⟨_, rfl⟩
    have hxq : x0 ∈ st.q := hx0 ▸ List.getElem_mem hI.pos
    obtain ⟨c, hcq, hc2, hc3⟩ := impl_far_l0 hn10 hG.ok hf (by omega) st.q.length 0 x0 (Nat.zero_add _) hxq (fun j _ hj => absurd hj (Nat.not_lt_zero _))
    have hoc := hG.ok c hcq
    have k1 := hc2 b hbq
    have k2 := hb2 (num c) (numN_lt hoc)
    have hcs : stOf ks.length (num c) = c := by have := stOf_num c hoc.2; rw [hoc.1] at this; exact this
    rw [hcs] at k2
    unfold bet2 at k1 k2
    have hce : c = b := val_inj hoc.2 hob.2 (by rw [hoc.1, hob.1]) (by omega)
    subst hce
    refine ⟨(tx c, wt st c, true), ?_, ?_⟩
    · unfold spec_FarthestByKeys.f
      refine Ev.bind h1 (Ev.congr (fun k => if_pos rfl) (Ev.bind h ?_))
      refine Ev.congr (fun k => ?_) hb3
      rw [hF.1, hws]
      rfl
    · unfold impl_FarthestByKeys.f
      refine Ev.bind h2 (Ev.congr (fun k => by rw [if_pos rfl, if_pos (ok_smallK hn10 hs)]) (Ev.bind hrun ?_))
      have hfar : Ev (fun k => impl_reached_farthest.f k (st.q.map tx) (fB st)) (tx c, wt st c) := by
        unfold impl_reached_farthest.f
        refine Ev.congr (fun k => ?_) hc3
        rw [if_pos (show (0 : Int) < ((st.q.map tx).length : Int) by rw [List.length_map]; exact Int.ofNat_lt.2 hI.pos)]
        have e := rdM hI.pos
        rw [hx0] at e
        rw [← e]
        rfl
      exact Ev.bind (f := fun _ (z : ByteArray × Int) => some (z.1, z.2, true)) hfar (Ev.now _)
end Go.Proofs.YtbgkcbppkhakhaaDoor.Lem
namespace Go.Proofs.YtbgkcbppkhakhaaDoor.Pure
open Go.RowKit Go.Proofs.YtbgkcbppkhakhaaDoor.Lem Go.Proofs.YtbgkcbppkhakhaaDoor.PK Go.Proofs.YtbgkcbppkhakhaaDoorW.PrintWords Go.Proofs.YtbgkcbppkhakhaaDoorW.PrintLast Go.Proofs.YtbgkcbppkhakhaaDoorW.PrintMore

theorem FnExactFarthestByKeys : laws_FnExactFarthestByKeys.Pure := by
  intro L s hl hz _
  obtain ⟨t, ht, hc⟩ := szStringS L hl hz
  have key : Ev (fun k => laws_FnExactFarthestByKeys.f k L s) true := by
    unfold laws_FnExactFarthestByKeys.f
    by_cases d0 : (s.size : Int) > 1048576
    · exact Ev.congr (fun k => if_pos d0) (Ev.now _)
    refine Ev.congr (fun k => if_neg d0) ?_
    refine Ev.bind ht ?_
    by_cases c1 : t < 0
    · exact Ev.congr (fun k => if_pos c1) (Ev.now _)
    have hh := hc.resolve_left c1
    have h1 := toStringS L hh
    have h2 := eqStringS L hh
    obtain ⟨ks, rfl⟩ := as_tx L
    obtain ⟨R, e1, e2⟩ := both_far ks s.data.toList (by rwa [List.length_map] at hh)
    rw [tx_self] at e1 e2
    refine Ev.congr (fun k => if_neg c1) (Ev.bind h1 (Ev.bind e1 (Ev.bind h1 (Ev.bind e2 ?_))))
    refine Ev.congr (fun k => by rw [if_pos rfl, if_pos rfl, bne_self_eq_false]) ?_
    refine Ev.step (fun k => by simp only [laws_FnExactFarthestByKeys.j0]; rw [if_neg Bool.false_ne_true]) (Ev.bind h1 ?_)
    exact Ev.bind h2 (Ev.congr (fun k => if_pos rfl) (Ev.now _))
  obtain ⟨K, h⟩ := key
  exact ⟨K, h K (Nat.le_refl _)⟩
end Go.Proofs.YtbgkcbppkhakhaaDoor.Pure
