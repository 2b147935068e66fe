/-
  Moves of the fewest by keys, the first ones: the law holds.
-/
import Derived.Test.YtbgkcbppkhakhaaDoorPureKeyedMovesK
import Derived.Test.YtbgkcbppkhakhaaDoorPKx11
import Derived.Sort.Walk0
namespace Go.Proofs.YtbgkcbppkhakhaaDoor.Lem
open Go.RowKit Go.Proofs.YtbgkcbppkhakhaaDoor.PK Go.Proofs.YtbgkcbppkhakhaaDoorW.PrintWords Go.Proofs.YtbgkcbppkhakhaaDoorW.PrintLast Go.Proofs.YtbgkcbppkhakhaaDoorW.PrintMore Go.Proofs.YtbgkcbppkhakhaaDoor.Ring Go.Proofs.YtbgkcbppkhakhaaDoor.Bfs
set_option linter.unusedVariables false
set_option linter.unusedSimpArgs false

theorem toL_tx {a b : Stt} : (tx a).toList = (tx b).toList ↔ a = b := by
  rw [Go.Lib.toList_data, Go.Lib.toList_data, tx_data, tx_data]
/-- A state with a move nearer. -/
theorem down {ks : List Stt} (hk : keysOk ks = true) {b : Stt} (hb : okN ks.length b) {a : Stt} {n : Nat} (ha : (foundK ks b).far a = some (n + 1)) : ∃ (i : Nat) (hi : i < (mvK ks a ks.length).length), (foundK ks b).far (flipAt a (mvK ks a ks.length)[i]) = some n := by
  obtain ⟨hI, hG⟩ := found_good (setupK hk) hb
  have hI : Inv (stepK ks) b (foundK ks b) (foundK ks b).q.length := hI
  have hG : GoodS (okN ks.length) (foundK ks b) := hG
  have hF := hI.final
  have hp := hF.path a (n + 1) ha
  cases hp with
  | @snoc _ c _ hc hac =>
    obtain ⟨m, hm, hmn⟩ := hF.least c n hc
    obtain ⟨m2, hm2, hle⟩ := hF.least a (m + 1) (.snoc (hF.path c m hm) hac)
    rw [ha] at hm2
    have hmn2 : m = n := by have := Option.some.inj hm2; omega
    subst hmn2
    have hoc := hG.ok c ((hF.iff c).1 (by rw [hm]; rfl))
    have hca := stepK_back hk hoc hac
    obtain ⟨k, hk1, rfl⟩ := List.mem_map.1 hca
    obtain ⟨i, hi, e⟩ := List.getElem_of_mem hk1
    exact ⟨i, hi, by rw [e]; exact hm⟩
theorem near {ks : List Stt} (hk : keysOk ks = true) {b : Stt} (hb : okN ks.length b) {a t : Stt} {n : Nat} (ha : (foundK ks b).far a = some n) (ht : t ∈ stepK ks a) : ∃ v, (foundK ks b).far t = some v := by
  have hF : Final (stepK ks) b (foundK ks b) := (found_good (setupK hk) hb).1.final
  obtain ⟨m, hm, _⟩ := hF.least t (n + 1) (.snoc (hF.path a n ha) ht)
  exact ⟨m, hm⟩
theorem inner {ks : List Stt} (hk : keysOk ks = true) {b : Stt} (hb : okN ks.length b) {F : List Int} (hFr : FarN ks.length F (foundK ks b)) {a : Stt} (hoa : okN ks.length a) {n : Nat} (hn : n ≤ 2000) (ha : (foundK ks b).far a = some (n + 1)) (x : List Int) (hx : x.length ≤ 2000) :
    ∀ d j, j + d = (mvK ks a ks.length).length → (∃ (i : Nat) (hi : i < (mvK ks a ks.length).length), j ≤ i ∧ (foundK ks b).far (flipAt a (mvK ks a ks.length)[i]) = some n) →
    ∃ m, (foundK ks b).far (flipAt a m) = some n ∧
      (∀ R, Ev (fun k => spec_FirstKeyed.l0 k (ks.map tx) (tx (flipAt a m)) (tx b) F (x ++ [((m : Nat) : Int)])) R → Ev (fun k => spec_FirstKeyed.l1 k (ks.map tx) (tx a) (tx b) F x (ints (mvK ks a ks.length)) ((mvK ks a ks.length).length : Int) (j : Int)) R) ∧
      (∀ R, Ev (fun k => impl_FirstKeyed.l0 (ks.map tx) (fB (foundK ks b)) (tx b) k (tx (flipAt a m)) (x ++ [((m : Nat) : Int)])) R → Ev (fun k => impl_FirstKeyed.l1 (ks.map tx) (fB (foundK ks b)) (tx b) k (tx a) x (ints (mvK ks a ks.length)) (j : Int)) R) := by
  obtain ⟨⟨kl1, kl2⟩, k3⟩ := keys_parts hk
  have hml := mvK_len ks a ks.length
  intro d
  induction d with
  | zero =>
    intro j hj hw
    obtain ⟨i, hi, hji, _⟩ := hw
    omega
  | succ d ih =>
    intro j hj hw
    have hjl : j < (mvK ks a ks.length).length := by omega
    obtain ⟨m, hm⟩ : ∃ m, (mvK ks a ks.length)[j] = m := ⟨_, rfl⟩
    have hmm := mvK_lt (hm ▸ List.getElem_mem hjl)
    have hms : flipAt a m ∈ stepK ks a := List.mem_map_of_mem (hm ▸ List.getElem_mem hjl)
    obtain ⟨t, ht⟩ : ∃ t, flipAt a m = t := ⟨_, rfl⟩
    have hot : okN ks.length t := ht ▸ okN_flip hoa m
    have hmv : spec_riMove.f (tx a) ((m : Nat) : Int) = some (tx t) := by rw [← ht]; exact riMove a (by have := hoa.1; omega) hoa.2 m (by rw [hoa.1]; exact hmm.1)
    have htu : impl_turned.f (tx a) ((m : Nat) : Int) = some (tx t) := by rw [← ht]; exact turned a (by have := hoa.1; omega) hoa.2 m (by rw [hoa.1]; exact hmm.1)
    obtain ⟨v, hv⟩ := near hk hb ha (ht ▸ hms)
    have hnt : ((num t : Nat) : Int) < (F.length : Int) := by rw [hFr.1]; exact Int.ofNat_lt.2 (numN_lt hot)
    have hna : ((num a : Nat) : Int) < (F.length : Int) := by rw [hFr.1]; exact Int.ofNat_lt.2 (numN_lt hoa)
    have hrT : rd F ((num t : Nat) : Int) = (v : Int) := by have := hFr.2 t hot; rw [hv] at this; exact this
    have hrA : rd F ((num a : Nat) : Int) = ((n + 1 : Nat) : Int) := by have := hFr.2 a hoa; rw [ha] at this; exact this
    have hw1 : wrap64 (((n + 1 : Nat) : Int) - 1) = (n : Int) := by rw [w64 (by omega) (by omega)]; omega
    have hfT : (fB (foundK ks b) (tx t)).getD 0 = (v : Int) := by rw [fB_tx, hv]; rfl
    have hfA : (fB (foundK ks b) (tx a)).getD 0 = ((n + 1 : Nat) : Int) := by rw [fB_tx, ha]; rfl
    have hJ : (j : Int) < ((mvK ks a ks.length).length : Int) := Int.ofNat_lt.2 hjl
    have hJ2 : (j : Int) < ((ints (mvK ks a ks.length)).length : Int) := by rw [ints_len]; exact hJ
    have hsj : wrap64 ((j : Int) + 1) = ((j + 1 : Nat) : Int) := succ64 (by omega)
    have hsz : (tx a).size ≤ maxLen ∧ (tx t).size ≤ maxLen ∧ x.length < 8796093022208 := ⟨ok_smallK kl2 hoa, ok_smallK kl2 hot, Nat.lt_of_le_of_lt hx (by decide)⟩
    have hx2 : x.length < 17592186044416 := Nat.lt_of_le_of_lt hx (by decide)
    obtain ⟨K1, g1⟩ := riNum kl2 hot
    obtain ⟨K2, g2⟩ := riNum kl2 hoa
    have g1 : ∀ k, K1 ≤ k → spec_riNumber.f k (tx t) = some ((num t : Nat) : Int) := g1
    have g2 : ∀ k, K2 ≤ k → spec_riNumber.f k (tx a) = some ((num a : Nat) : Int) := g2
    by_cases hc : v = n
    · refine ⟨m, by rw [ht, hv, hc], fun R h => ?_, fun R h => ?_⟩
      · rw [ht] at h
        obtain ⟨K3, g3⟩ := h
        refine ⟨max K1 (max K2 K3) + 1, fun N hN => ?_⟩
        obtain ⟨k, rfl, k1, k2, k3⟩ := max3 hN
        simp only [spec_FirstKeyed.l1]
        rw [if_pos hJ, if_pos (Int.natCast_nonneg _), if_pos hJ2, rd_ints hjl, hm, hmv, obind, g1 k k1, obind, if_pos (Int.natCast_nonneg _), if_pos hnt, g2 k k2, obind, if_pos (Int.natCast_nonneg _), if_pos hna, hrT, hrA, hw1, if_pos (by rw [hc]), if_pos hx2]
        exact g3 k k3
      · rw [ht] at h
        refine Ev.step (fun k => ?_) h
        simp only [impl_FirstKeyed.l1]
        rw [if_pos hJ2, if_pos (Int.natCast_nonneg _), rd_ints hjl, hm, htu, obind, if_pos hsz, hfT, hfA, hw1, if_pos (by rw [hc])]
    · have hne : ¬ ((v : Int) = (n : Int)) := fun h => hc (Int.ofNat.inj h)
      obtain ⟨m', h1, h2, h3⟩ := ih (j + 1) (ar_j hj) (by
        obtain ⟨i, hi, hji, hfi⟩ := hw
        refine ⟨i, hi, ?_, hfi⟩
        by_cases e : i = j
        · subst e
          rw [hm, ht, hv] at hfi
          exact absurd (Option.some.inj hfi) hc
        · exact Nat.lt_of_le_of_ne hji (fun h => e h.symm))
      refine ⟨m', h1, fun R h => ?_, fun R h => ?_⟩
      · obtain ⟨K3, g3⟩ := h2 R h
        refine ⟨max K1 (max K2 K3) + 1, fun N hN => ?_⟩
        obtain ⟨k, rfl, k1, k2, k3⟩ := max3 hN
        simp only [spec_FirstKeyed.l1]
        rw [if_pos hJ, if_pos (Int.natCast_nonneg _), if_pos hJ2, rd_ints hjl, hm, hmv, obind, g1 k k1, obind, if_pos (Int.natCast_nonneg _), if_pos hnt, g2 k k2, obind, if_pos (Int.natCast_nonneg _), if_pos hna, hrT, hrA, hw1, if_neg hne, hsj]
        exact g3 k k3
      · refine Ev.step (fun k => ?_) (h3 R h)
        simp only [impl_FirstKeyed.l1]
        rw [if_pos hJ2, if_pos (Int.natCast_nonneg _), rd_ints hjl, hm, htu, obind, if_pos hsz, hfT, hfA, hw1, if_neg hne, hsj]
theorem outer {ks : List Stt} (hk : keysOk ks = true) {b : Stt} (hb : okN ks.length b) {F : List Int} (hFr : FarN ks.length F (foundK ks b)) : ∀ n (a : Stt) (x : List Int), okN ks.length a → (foundK ks b).far a = some n → x.length + n ≤ 2000 →
    ∃ R : List Int × Bool, R.1.length ≤ 2000 ∧ Ev (fun k => spec_FirstKeyed.l0 k (ks.map tx) (tx a) (tx b) F x) R ∧ Ev (fun k => impl_FirstKeyed.l0 (ks.map tx) (fB (foundK ks b)) (tx b) k (tx a) x) R := by
  have hI : Inv (stepK ks) b (foundK ks b) (foundK ks b).q.length := (found_good (setupK hk) hb).1
  intro n
  induction n with
  | zero =>
    intro a x hoa ha hx
    have hab : a = b := by
      have := hI.path a 0 ha
      cases this
      rfl
    subst hab
    refine ⟨(x, true), by omega, Ev.step (f := fun _ => some (x, true)) (fun k => ?_) (Ev.now _), Ev.step (f := fun _ => some (x, true)) (fun k => ?_) (Ev.now _)⟩
    · simp only [spec_FirstKeyed.l0]
      rw [if_pos trivial]
    · simp only [impl_FirstKeyed.l0]
      rw [if_pos trivial]
  | succ n ih =>
    intro a x hoa ha hx
    have hne : ¬ ((tx a).toList = (tx b).toList) := fun h => by
      rw [toL_tx] at h
      rw [h, hI.zero] at ha
      cases ha
    obtain ⟨i, hi, hfi⟩ := down hk hb ha
    obtain ⟨m, hm, e1, e2⟩ := inner hk hb hFr hoa (by omega) ha x (by omega) (mvK ks a ks.length).length 0 (Nat.zero_add _) ⟨i, hi, Nat.zero_le _, hfi⟩
    obtain ⟨R, hR, h1, h2⟩ := ih (flipAt a m) (x ++ [((m : Nat) : Int)]) (okN_flip hoa m) hm (by rw [List.length_append, List.length_singleton]; omega)
    refine ⟨R, hR, ?_, ?_⟩
    · refine ev_num (keMoves hk hoa) (e1 R h1) (fun k hk2 => ?_)
      simp only [spec_FirstKeyed.l0]
      rw [if_neg hne, hk2, obind, ints_len]
      rfl
    · refine ev_num (keyedMoves hk hoa) (e2 R h2) (fun k hk2 => ?_)
      simp only [impl_FirstKeyed.l0]
      rw [if_neg hne, hk2, obind]
      rfl
theorem both_first (ks : List Stt) (s t : Stt) (hn : ks.length ≤ 1048576) : ∃ R : List Int × Bool, R.1.length ≤ 2000 ∧ Ev (fun k => spec_FirstKeyed.f k (ks.map tx) (tx s) (tx t)) R ∧ Ev (fun k => impl_FirstKeyed.f k (ks.map tx) (tx s) (tx t)) R := by
  have h1 := keTwo ks s t hn
  have h2 := keyed_two ks s t hn
  cases ha : (askK ks s && askK ks t) with
  | false =>
    rw [ha] at h1 h2
    exact ⟨([], false), Nat.zero_le _, by unfold spec_FirstKeyed.f; exact Ev.bind h1 (Ev.congr (fun k => if_neg (by simp)) (Ev.now _)), by unfold impl_FirstKeyed.f; exact Ev.bind h2 (Ev.congr (fun k => if_neg (by simp)) (Ev.now _))⟩
  | true =>
    rw [ha] at h1 h2
    rw [Bool.and_eq_true] at ha
    obtain ⟨hk, hs⟩ := ask_parts ha.1
    obtain ⟨_, ht⟩ := ask_parts ha.2
    have hn10 := (keys_parts hk).1.2
    have hpw := pow10 hn10
    obtain ⟨F, W, hF, h⟩ := keFar hk ht
    obtain ⟨hI, hG⟩ := found_good (setupK hk) ht
    have hI : Inv (stepK ks) t (foundK ks t) (foundK ks t).q.length := hI
    have hG : GoodS (okN ks.length) (foundK ks t) := hG
    have hlen := hG.len (setupK hk) hI.nodup
    have hnt : ((num s : Nat) : Int) < (F.length : Int) := by rw [hF.1]; exact Int.ofNat_lt.2 (numN_lt hs)
    have hrF : rd F ((num s : Nat) : Int) = fz ((foundK ks t).far s) := hF.2 s hs
    have hsome : (fB (foundK ks t) (tx s)).isSome = ((foundK ks t).far s).isSome := by rw [fB_tx]; cases (foundK ks t).far s <;> rfl
    have pre1 : ∀ R, (∀ k, (if rd F ((num s : Nat) : Int) < 0 then some (([] : List Int), false) else spec_FirstKeyed.l0 k (ks.map tx) (tx s) (tx t) F ([] : List Int)) = (if (foundK ks t).far s = none then some (([] : List Int), false) else spec_FirstKeyed.l0 k (ks.map tx) (tx s) (tx t) F ([] : List Int))) → Ev (fun k => if (foundK ks t).far s = none then some (([] : List Int), false) else spec_FirstKeyed.l0 k (ks.map tx) (tx s) (tx t) F ([] : List Int)) R → Ev (fun k => spec_FirstKeyed.f k (ks.map tx) (tx s) (tx t)) R := fun R he hR => by
      unfold spec_FirstKeyed.f
      refine Ev.bind h1 (Ev.congr (fun k => if_pos rfl) (Ev.bind h (Ev.bind (riNum hn10 hs) ?_)))
      refine Ev.congr (fun k => ?_) hR
      rw [if_pos (Int.natCast_nonneg _), if_pos hnt]
      exact he k
    have heq : ∀ k, (if rd F ((num s : Nat) : Int) < 0 then some (([] : List Int), false) else spec_FirstKeyed.l0 k (ks.map tx) (tx s) (tx t) F ([] : List Int)) = (if (foundK ks t).far s = none then some (([] : List Int), false) else spec_FirstKeyed.l0 k (ks.map tx) (tx s) (tx t) F ([] : List Int)) := fun k => by
      rw [hrF]
      by_cases e : (foundK ks t).far s = none
      · rw [if_pos e, if_pos (fz_neg.2 e)]
      · rw [if_neg e, if_neg (fun h => e (fz_neg.1 h))]
    have pre2 : ∀ R, Ev (fun k => if (fB (foundK ks t) (tx s)).isSome = true then impl_FirstKeyed.l0 (ks.map tx) (fB (foundK ks t)) (tx t) k (tx s) [] else some ([], false)) R → Ev (fun k => impl_FirstKeyed.f k (ks.map tx) (tx s) (tx t)) R := fun R hR => by
      unfold impl_FirstKeyed.f
      exact Ev.bind h2 (Ev.congr (fun k => by rw [if_pos rfl, if_pos ⟨ok_smallK hn10 hs, ok_smallK hn10 ht⟩]) (Ev.bind (search_runK hk t ht) hR))
    cases e : (foundK ks t).far s with
    | none =>
      refine ⟨([], false), Nat.zero_le _, pre1 _ heq (Ev.congr (fun k => if_pos e) (Ev.now _)), pre2 _ (Ev.congr (fun k => if_neg (by rw [hsome, e]; simp)) (Ev.now _))⟩
    | some n =>
      have hb := hG.bnd s n e
      obtain ⟨R, hR, g1, g2⟩ := outer hk ht hF n s [] hs e (by rw [List.length_nil]; omega)
      exact ⟨R, hR, pre1 _ heq (Ev.congr (fun k => if_neg (by rw [e]; simp)) g1), pre2 _ (Ev.congr (fun k => if_pos (by rw [hsome, e]; rfl)) g2)⟩
end Go.Proofs.YtbgkcbppkhakhaaDoor.Lem
namespace Go.Proofs.YtbgkcbppkhakhaaDoor.Pure
open Go.RowKit Go.Proofs.YtbgkcbppkhakhaaDoor.Lem Go.Proofs.YtbgkcbppkhakhaaDoor.PK Go.Proofs.YtbgkcbppkhakhaaDoorW.PrintWords Go.Proofs.YtbgkcbppkhakhaaDoorW.PrintLast Go.Proofs.YtbgkcbppkhakhaaDoorW.PrintMore

theorem FnExactFirstKeyed : laws_FnExactFirstKeyed.Pure := by
  intro L s u hl hz _ _
  obtain ⟨t, ht, hc⟩ := szStringS L hl hz
  have key : Ev (fun k => laws_FnExactFirstKeyed.f k L s u) true := by
    unfold laws_FnExactFirstKeyed.f
    by_cases d0 : (s.size : Int) > 1048576
    · exact Ev.congr (fun k => if_pos d0) (Ev.now _)
    refine Ev.congr (fun k => if_neg d0) ?_
    by_cases d1 : (u.size : Int) > 1048576
    · exact Ev.congr (fun k => if_pos d1) (Ev.now _)
    refine Ev.congr (fun k => if_neg d1) ?_
    refine Ev.bind ht ?_
    by_cases c1 : t < 0
    · exact Ev.congr (fun k => if_pos c1) (Ev.now _)
    have hh := hc.resolve_left c1
    have h1 := toStringS L hh
    have h2 := eqStringS L hh
    obtain ⟨lm, h3⟩ := markStringS L hh
    obtain ⟨ks, rfl⟩ := as_tx L
    have hn : ks.length ≤ 1048576 := by rwa [List.length_map] at hh
    obtain ⟨R, hn9, e1, e2⟩ := both_first ks s.data.toList u.data.toList hn
    rw [tx_self, tx_self] at e1 e2
    have hq := eqIntS R.1 (by omega)
    obtain ⟨l', hm, hml, hmv⟩ := markIntS R.1 (by omega)
    have hld := heldIntS l' R.1.length hml (by omega) hmv
    refine Ev.congr (fun k => if_neg c1) (Ev.bind h1 (Ev.bind e1 (Ev.bind h1 (Ev.bind e2 (Ev.bind hq ?_)))))
    refine Ev.congr (fun k => by rw [if_pos rfl, bne_self_eq_false]) ?_
    refine Ev.step (fun k => by simp only [laws_FnExactFirstKeyed.j0]; rw [if_neg Bool.false_ne_true]) ?_
    refine Ev.bind h1 (Ev.bind h2 ?_)
    refine Ev.congr (fun k => if_pos rfl) (Ev.bind h3 ?_)
    refine Ev.congr (fun k => if_neg (show ¬ (((ks.map tx).length + 1 : Nat) : Int) < 0 by omega)) (Ev.bind hq ?_)
    refine Ev.congr (fun k => by rw [if_pos rfl, bne_self_eq_false]) ?_
    refine Ev.step (fun k => by simp only [laws_FnExactFirstKeyed.j1]; rw [if_neg Bool.false_ne_true]) ?_
    refine Ev.bind hm (Ev.bind hld ?_)
    refine Ev.congr (fun k => by rw [if_neg (show ¬ ((1 + R.1.length : Nat) : Int) < 0 by omega), if_pos rfl]) ?_
    refine Ev.bind h1 (Ev.bind e2 (Ev.bind hq ?_))
    refine Ev.congr (fun k => by rw [if_pos rfl, bne_self_eq_false]) ?_
    refine Ev.step (fun k => by simp only [laws_FnExactFirstKeyed.j2]; rw [if_neg Bool.false_ne_true]) ?_
    refine Ev.bind hld ?_
    refine Ev.congr (fun k => by rw [if_neg (show ¬ ((1 + R.1.length : Nat) : Int) < 0 by omega), if_pos rfl]) (Ev.now _)
  obtain ⟨K, h⟩ := key
  exact ⟨K, h K (Nat.le_refl _)⟩
end Go.Proofs.YtbgkcbppkhakhaaDoor.Pure
