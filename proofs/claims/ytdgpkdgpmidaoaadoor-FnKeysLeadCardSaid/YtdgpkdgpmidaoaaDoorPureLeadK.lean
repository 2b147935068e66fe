/-
  The functions on keys: what each answers, told outright.
  The draws of keys and of states for them: a cursor over any bytes gives its choices: at most five keys, and every draw comes to an end.
  Keys: rings are moved if their keys fit, first ways are of the fewest moves and as many back as there, and as many states are reached: the law of all of them holds.
-/
import Derived.Test.YtdgpkdgpmidaoaaDoorLemKeWaysK
import Derived.Test.YtdgpkdgpmidaoaaDoorPKx11
namespace Go.Proofs.YtdgpkdgpmidaoaaDoor.Lem
open Go.RowKit Go.Proofs.YtdgpkdgpmidaoaaDoor.PK Go.Proofs.YtdgpkdgpmidaoaaDoorW.PrintWords Go.Proofs.YtdgpkdgpmidaoaaDoorW.PrintLast Go.Proofs.YtdgpkdgpmidaoaaDoorW.PrintMore Go.Proofs.YtdgpkdgpmidaoaaDoor.Ring Go.Proofs.YtdgpkdgpmidaoaaDoor.Bfs
set_option linter.unusedVariables false
set_option linter.unusedSimpArgs false

def ansO : Option Nat → Int × Bool
  | none => (0, false)
  | some n => ((n : Int), true)
def fewV (ks : List Stt) (s t : Stt) : Int × Bool := if (askK ks s && askK ks t) = true then ansO ((foundK ks s).far t) else (0, false)
theorem few_both (ks : List Stt) (s t : Stt) (hn : ks.length ≤ 1048576) : Ev (fun k => spec_FewestKeyed.f k (ks.map tx) (tx s) (tx t)) (fewV ks s t) ∧ Ev (fun k => impl_FewestKeyed.f k (ks.map tx) (tx s) (tx t)) (fewV ks s t) := by
  unfold fewV
  refine ⟨?_, ?_⟩
  · unfold spec_FewestKeyed.f
    refine Ev.bind (keTwo ks s t hn) ?_
    cases ha : (askK ks s && askK ks t) with
    | false => exact Ev.congr (fun k => if_neg (by simp)) (Ev.now _)
    | true =>
      rw [if_pos rfl]
      rw [Bool.and_eq_true] at ha
      obtain ⟨hk, hs⟩ := ask_parts ha.1
      obtain ⟨_, ht⟩ := ask_parts ha.2
      obtain ⟨F, W, hF, h⟩ := keFar hk ht
      have hnt : ((num s : Nat) : Int) < (F.length : Int) := by rw [hF.1]; exact Int.ofNat_lt.2 (numN_lt hs)
      have hrF : rd F ((num s : Nat) : Int) = fz ((foundK ks s).far t) := by rw [← found_sym hk hs ht]; exact hF.2 s hs
      refine Ev.congr (fun k => if_pos rfl) (Ev.bind h (Ev.bind (riNum (keys_parts hk).1.2 hs) ?_))
      refine Ev.congr (fun k => by rw [if_pos (Int.natCast_nonneg _), if_pos hnt, hrF]) ?_
      cases (foundK ks s).far t with
      | none => exact Ev.congr (fun k => if_pos (by decide)) (Ev.now _)
      | some v => exact Ev.congr (fun k => if_neg (by rw [fz_neg]; simp)) (Ev.now _)
  · unfold impl_FewestKeyed.f
    refine Ev.bind (keyed_two ks s t hn) ?_
    cases ha : (askK ks s && askK ks t) with
    | false => exact Ev.congr (fun k => if_neg (by simp)) (Ev.now _)
    | true =>
      rw [if_pos rfl]
      rw [Bool.and_eq_true] at ha
      obtain ⟨hk, hs⟩ := ask_parts ha.1
      obtain ⟨_, ht⟩ := ask_parts ha.2
      have hn10 := (keys_parts hk).1.2
      refine Ev.congr (fun k => by rw [if_pos rfl, if_pos ⟨ok_smallK hn10 hs, ok_smallK hn10 ht⟩]) (Ev.bind (f := fun _ (q : List ByteArray × (ByteArray → Option Int) × (ByteArray → Option Int)) => some ((q.2.1 (tx t)).getD 0, (q.2.1 (tx t)).isSome)) (search_runK hk s hs) (Ev.congr (fun k => ?_) (Ev.now _)))
      show some ((fB (foundK ks s) (tx t)).getD 0, (fB (foundK ks s) (tx t)).isSome) = _
      rw [fB_tx]
      cases (foundK ks s).far t <;> rfl
theorem rdKx {ks : List Stt} {x : Int} (h0 : 0 ≤ x) (h1 : x < (ks.length : Int)) : rdOf ByteArray.empty (ks.map tx) x = tx (ks.getD x.toNat []) := by
  obtain ⟨n, rfl⟩ := Int.eq_ofNat_of_zero_le h0
  have hn : n < ks.length := Int.ofNat_lt.1 h1
  rw [Int.toNat_natCast, getD_get hn]
  exact rdK hn
def fitsR (ks : List Stt) (s : Stt) (x : Int) : Bool × Bool := if askK ks s = true ∧ 0 ≤ x ∧ x < (ks.length : Int) then (fits (ks.getD x.toNat []) s, true) else (false, false)
theorem key_at {ks : List Stt} {s : Stt} (hk : keysOk ks = true) (hs : okN ks.length s) {x : Int} (h0 : 0 ≤ x) (h1 : x < (ks.length : Int)) : (ks.getD x.toNat []).all okk = true ∧ (ks.getD x.toNat []).length = s.length ∧ s.length ≤ 10 := by
  obtain ⟨⟨k1, k2⟩, k3⟩ := keys_parts hk
  obtain ⟨n, rfl⟩ := Int.eq_ofNat_of_zero_le h0
  have hn : n < ks.length := Int.ofNat_lt.1 h1
  rw [Int.toNat_natCast, getD_get hn]
  obtain ⟨a1, a2, a3⟩ := k3 n hn
  exact ⟨a3, by rw [a1, hs.1], by rw [hs.1]; exact k2⟩
theorem fits_both (ks : List Stt) (s : Stt) (x : Int) (hn : ks.length ≤ 1048576) : Ev (fun k => spec_FitsKey.f k (ks.map tx) (tx s) x) (fitsR ks s x) ∧ Ev (fun k => impl_FitsKey.f k (ks.map tx) (tx s) x) (fitsR ks s x) := by
  refine ⟨?_, ?_⟩
  · unfold spec_FitsKey.f fitsR
    refine Ev.bind (keAsked ks s hn) ?_
    cases ha : askK ks s with
    | false => exact Ev.congr (fun k => by rw [if_neg Bool.false_ne_true, if_neg (fun h => Bool.false_ne_true h.1)]) (Ev.now _)
    | true =>
      obtain ⟨hk, hs⟩ := ask_parts ha
      rw [List.length_map, w64 (n := (ks.length : Int) - 1) (by omega) (by omega), l1In_eq]
      by_cases c : 0 ≤ x ∧ x < (ks.length : Int)
      · obtain ⟨k1, k2, k3⟩ := key_at hk hs c.1 c.2
        refine Ev.congr (fun k => by rw [if_pos rfl, obind, if_pos (by rw [decide_eq_true_eq]; omega), if_pos c.1, if_pos c.2, rdKx c.1 c.2]) ?_
        rw [if_pos ⟨rfl, c⟩]
        exact Ev.bind (f := fun _ t => some (t, true)) (keFits _ s k1 k2 (by omega)) (Ev.now _)
      · refine Ev.congr (fun k => by rw [if_pos rfl, obind, if_neg (by rw [decide_eq_true_eq]; omega), if_neg (fun h => c h.2)]) (Ev.now _)
  · unfold impl_FitsKey.f fitsR
    refine Ev.bind (keyed_one ks s hn) ?_
    cases ha : askK ks s with
    | false => exact Ev.congr (fun k => by rw [if_neg Bool.false_ne_true, if_neg (fun h => Bool.false_ne_true h.1)]) (Ev.now _)
    | true =>
      obtain ⟨hk, hs⟩ := ask_parts ha
      rw [List.length_map, w64 (n := (ks.length : Int) - 1) (by omega) (by omega), in_eq]
      by_cases c : 0 ≤ x ∧ x < (ks.length : Int)
      · obtain ⟨k1, k2, k3⟩ := key_at hk hs c.1 c.2
        refine Ev.congr (fun k => by rw [if_pos rfl, obind, if_pos (by rw [decide_eq_true_eq]; omega), if_pos c.1, if_pos c.2, rdKx c.1 c.2]) ?_
        rw [if_pos ⟨rfl, c⟩]
        exact Ev.bind (f := fun _ t => some (t, true)) (meets _ s k2 (by omega)) (Ev.now _)
      · refine Ev.congr (fun k => by rw [if_pos rfl, obind, if_neg (by rw [decide_eq_true_eq]; omega), if_neg (fun h => c h.2)]) (Ev.now _)
def moveV (ks : List Stt) (s : Stt) (x : Int) : ByteArray × Bool := if askK ks s = true ∧ 0 ≤ x ∧ x < (ks.length : Int) ∧ fits (ks.getD x.toNat []) s = true then (tx (flipAt s x.toNat), true) else (⟨#[]⟩, false)
theorem move_both (ks : List Stt) (s : Stt) (x : Int) (hn : ks.length ≤ 1048576) : Ev (fun k => spec_MoveKeyed.f k (ks.map tx) (tx s) x) (moveV ks s x) ∧ Ev (fun k => impl_MoveKeyed.f k (ks.map tx) (tx s) x) (moveV ks s x) := by
  by_cases c : askK ks s = true ∧ 0 ≤ x ∧ x < (ks.length : Int)
  · obtain ⟨hk, hs⟩ := ask_parts c.1
    obtain ⟨k1, k2, k3⟩ := key_at hk hs c.2.1 c.2.2
    have h1 := keAsked ks s hn
    have h2 := keyed_one ks s hn
    rw [c.1] at h1 h2
    have hx : ∃ n : Nat, x = (n : Int) ∧ n < s.length := by
      obtain ⟨n, hxn⟩ := Int.eq_ofNat_of_zero_le c.2.1
      exact ⟨n, hxn, by rw [hs.1]; have := c.2.2; omega⟩
    obtain ⟨n, rfl, hns⟩ := hx
    have hm := riMove s (by omega) hs.2 n hns
    have ht := turned s (by omega) hs.2 n hns
    have hf := keFits _ s k1 k2 (by omega)
    have hf2 := meets _ s k2 (by omega)
    have hfk : Ev (fun k => impl_FitsKey.f k (ks.map tx) (tx s) (n : Int)) (fits (ks.getD ((n : Int)).toNat []) s, true) := by
      unfold impl_FitsKey.f
      refine Ev.bind h2 (Ev.congr (fun k => ?_) (Ev.bind (f := fun _ t => some (t, true)) hf2 (Ev.now _)))
      rw [List.length_map, w64 (n := (ks.length : Int) - 1) (by omega) (by omega), in_eq, if_pos rfl, obind, if_pos (by rw [decide_eq_true_eq]; omega), if_pos c.2.1, if_pos c.2.2, rdKx c.2.1 c.2.2]
    have hv : moveV ks s (n : Int) = if fits (ks.getD ((n : Int)).toNat []) s = true then (tx (flipAt s n), true) else (⟨#[]⟩, false) := by
      unfold moveV
      by_cases hff : fits (ks.getD ((n : Int)).toNat []) s = true
      · rw [if_pos ⟨c.1, c.2.1, c.2.2, hff⟩, if_pos hff, Int.toNat_natCast]
      · rw [if_neg (fun h => hff h.2.2.2), if_neg hff]
    rw [hv]
    refine ⟨?_, ?_⟩
    · unfold spec_MoveKeyed.f
      refine Ev.bind h1 (Ev.congr (fun k => by rw [List.length_map, w64 (n := (ks.length : Int) - 1) (by omega) (by omega), l1In_eq, if_pos rfl, obind, if_pos (by rw [decide_eq_true_eq]; omega), if_pos c.2.1, if_pos c.2.2, rdKx c.2.1 c.2.2]) (Ev.bind hf ?_))
      cases fits (ks.getD ((n : Int)).toNat []) s with
      | false => exact Ev.congr (fun k => if_neg Bool.false_ne_true) (Ev.now _)
      | true => exact Ev.congr (fun k => by rw [if_pos rfl, hm, obind, if_pos rfl]) (Ev.now _)
    · unfold impl_MoveKeyed.f
      refine Ev.bind hfk (Ev.congr (fun k => if_pos rfl) ?_)
      cases fits (ks.getD ((n : Int)).toNat []) s with
      | false => exact Ev.congr (fun k => if_neg Bool.false_ne_true) (Ev.now _)
      | true => exact Ev.congr (fun k => by rw [if_pos rfl, ht, obind, if_pos rfl]) (Ev.now _)
  · have hv : moveV ks s x = (⟨#[]⟩, false) := if_neg (fun h => c ⟨h.1, h.2.1, h.2.2.1⟩)
    have hR : Ev (fun k => impl_FitsKey.f k (ks.map tx) (tx s) x) (false, false) := by
      unfold impl_FitsKey.f
      refine Ev.bind (keyed_one ks s hn) ?_
      cases ha : askK ks s with
      | false => exact Ev.congr (fun k => if_neg Bool.false_ne_true) (Ev.now _)
      | true =>
        rw [List.length_map, w64 (n := (ks.length : Int) - 1) (by omega) (by omega), in_eq]
        refine Ev.congr (fun k => by rw [if_pos rfl, obind, if_neg (by rw [decide_eq_true_eq]; have : ¬ (0 ≤ x ∧ x < (ks.length : Int)) := fun h => c ⟨ha, h⟩; omega)]) (Ev.now _)
    rw [hv]
    refine ⟨?_, ?_⟩
    · unfold spec_MoveKeyed.f
      refine Ev.bind (keAsked ks s hn) ?_
      cases ha : askK ks s with
      | false => exact Ev.congr (fun k => if_neg Bool.false_ne_true) (Ev.now _)
      | true =>
        rw [List.length_map, w64 (n := (ks.length : Int) - 1) (by omega) (by omega), l1In_eq]
        refine Ev.congr (fun k => by rw [if_pos rfl, obind, if_neg (by rw [decide_eq_true_eq]; have : ¬ (0 ≤ x ∧ x < (ks.length : Int)) := fun h => c ⟨ha, h⟩; omega)]) (Ev.now _)
    · unfold impl_MoveKeyed.f
      exact Ev.bind hR (Ev.congr (fun k => if_neg Bool.false_ne_true) (Ev.now _))
theorem toL_tx {a b : Stt} : (tx a).toList = (tx b).toList ↔ a = b := by
  rw [Go.Lib.toList_data, Go.Lib.toList_data, tx_data, tx_data]
/-- A state with a move nearer. -/
theorem down {ks : List Stt} (hk : keysOk ks = true) {b : Stt} (hb : okN ks.length b) {a : Stt} {n : Nat} (ha : (foundK ks b).far a = some (n + 1)) : ∃ (i : Nat) (hi : i < (mvK ks a ks.length).length), (foundK ks b).far (flipAt a (mvK ks a ks.length)[i]) = some n := by
  obtain ⟨hI, hG⟩ := found_good (setupK hk) hb
  have hI : Inv (stepK ks) b (foundK ks b) (foundK ks b).q.length := hI
  have hG : GoodS (okN ks.length) (foundK ks b) := hG
  have hF := hI.final
  have hp := hF.path a (n + 1) ha
  cases hp with
  | @snoc _ c _ hc hac =>
    obtain ⟨m, hm, hmn⟩ := hF.least c n hc
    obtain ⟨m2, hm2, hle⟩ := hF.least a (m + 1) (.snoc (hF.path c m hm) hac)
    rw [ha] at hm2
    have hmn2 : m = n := by have := Option.some.inj hm2; omega
    subst hmn2
    have hoc := hG.ok c ((hF.iff c).1 (by rw [hm]; rfl))
    have hca := stepK_back hk hoc hac
    obtain ⟨k, hk1, rfl⟩ := List.mem_map.1 hca
    obtain ⟨i, hi, e⟩ := List.getElem_of_mem hk1
    exact ⟨i, hi, by rw [e]; exact hm⟩
theorem near {ks : List Stt} (hk : keysOk ks = true) {b : Stt} (hb : okN ks.length b) {a t : Stt} {n : Nat} (ha : (foundK ks b).far a = some n) (ht : t ∈ stepK ks a) : ∃ v, (foundK ks b).far t = some v := by
  have hF : Final (stepK ks) b (foundK ks b) := (found_good (setupK hk) hb).1.final
  obtain ⟨m, hm, _⟩ := hF.least t (n + 1) (.snoc (hF.path a n ha) ht)
  exact ⟨m, hm⟩
theorem inner {ks : List Stt} (hk : keysOk ks = true) {b : Stt} (hb : okN ks.length b) {F : List Int} (hFr : FarN ks.length F (foundK ks b)) {a : Stt} (hoa : okN ks.length a) {n : Nat} (hn : n ≤ 2000) (ha : (foundK ks b).far a = some (n + 1)) (x : List Int) (hx : x.length ≤ 2000) :
    ∀ d j, j + d = (mvK ks a ks.length).length → (∃ (i : Nat) (hi : i < (mvK ks a ks.length).length), j ≤ i ∧ (foundK ks b).far (flipAt a (mvK ks a ks.length)[i]) = some n) →
    ∃ m, m ∈ mvK ks a ks.length ∧ (foundK ks b).far (flipAt a m) = some n ∧
      (∀ R, Ev (fun k => spec_FirstKeyed.l0 k (ks.map tx) (tx (flipAt a m)) (tx b) F (x ++ [((m : Nat) : Int)])) R → Ev (fun k => spec_FirstKeyed.l1 k (ks.map tx) (tx a) (tx b) F x (ints (mvK ks a ks.length)) ((mvK ks a ks.length).length : Int) (j : Int)) R) ∧
      (∀ R, Ev (fun k => impl_FirstKeyed.l0 (ks.map tx) (fB (foundK ks b)) (tx b) k (tx (flipAt a m)) (x ++ [((m : Nat) : Int)])) R → Ev (fun k => impl_FirstKeyed.l1 (ks.map tx) (fB (foundK ks b)) (tx b) k (tx a) x (ints (mvK ks a ks.length)) (j : Int)) R) := by
  obtain ⟨⟨kl1, kl2⟩, k3⟩ := keys_parts hk
  have hml := mvK_len ks a ks.length
  intro d
  induction d with
  | zero =>
    intro j hj hw
    obtain ⟨i, hi, hji, _⟩ := hw
    omega
  | succ d ih =>
    intro j hj hw
    have hjl : j < (mvK ks a ks.length).length := by omega
    obtain ⟨m, hm⟩ : ∃ m, (mvK ks a ks.length)[j] = m := ⟨_, rfl⟩
    have hmm := mvK_lt (hm ▸ List.getElem_mem hjl)
    have hms : flipAt a m ∈ stepK ks a := List.mem_map_of_mem (hm ▸ List.getElem_mem hjl)
    obtain ⟨t, ht⟩ : ∃ t, flipAt a m = t := ⟨_, rfl⟩
    have hot : okN ks.length t := ht ▸ okN_flip hoa m
    have hmv : spec_riMove.f (tx a) ((m : Nat) : Int) = some (tx t) := by rw [← ht]; exact riMove a (by have := hoa.1; omega) hoa.2 m (by rw [hoa.1]; exact hmm.1)
    have htu : impl_turned.f (tx a) ((m : Nat) : Int) = some (tx t) := by rw [← ht]; exact turned a (by have := hoa.1; omega) hoa.2 m (by rw [hoa.1]; exact hmm.1)
    obtain ⟨v, hv⟩ := near hk hb ha (ht ▸ hms)
    have hnt : ((num t : Nat) : Int) < (F.length : Int) := by rw [hFr.1]; exact Int.ofNat_lt.2 (numN_lt hot)
    have hna : ((num a : Nat) : Int) < (F.length : Int) := by rw [hFr.1]; exact Int.ofNat_lt.2 (numN_lt hoa)
    have hrT : rd F ((num t : Nat) : Int) = (v : Int) := by have := hFr.2 t hot; rw [hv] at this; exact this
    have hrA : rd F ((num a : Nat) : Int) = ((n + 1 : Nat) : Int) := by have := hFr.2 a hoa; rw [ha] at this; exact this
    have hw1 : wrap64 (((n + 1 : Nat) : Int) - 1) = (n : Int) := by rw [w64 (by omega) (by omega)]; omega
    have hfT : (fB (foundK ks b) (tx t)).getD 0 = (v : Int) := by rw [fB_tx, hv]; rfl
    have hfA : (fB (foundK ks b) (tx a)).getD 0 = ((n + 1 : Nat) : Int) := by rw [fB_tx, ha]; rfl
    have hJ : (j : Int) < ((mvK ks a ks.length).length : Int) := Int.ofNat_lt.2 hjl
    have hJ2 : (j : Int) < ((ints (mvK ks a ks.length)).length : Int) := by rw [ints_len]; exact hJ
    have hsj : wrap64 ((j : Int) + 1) = ((j + 1 : Nat) : Int) := succ64 (by omega)
    have hsz : (tx a).size ≤ maxLen ∧ (tx t).size ≤ maxLen ∧ x.length < 8796093022208 := ⟨ok_smallK kl2 hoa, ok_smallK kl2 hot, Nat.lt_of_le_of_lt hx (by decide)⟩
    have hx2 : x.length < 17592186044416 := Nat.lt_of_le_of_lt hx (by decide)
    obtain ⟨K1, g1⟩ := riNum kl2 hot
    obtain ⟨K2, g2⟩ := riNum kl2 hoa
    have g1 : ∀ k, K1 ≤ k → spec_riNumber.f k (tx t) = some ((num t : Nat) : Int) := g1
    have g2 : ∀ k, K2 ≤ k → spec_riNumber.f k (tx a) = some ((num a : Nat) : Int) := g2
    by_cases hc : v = n
    · refine ⟨m, hm ▸ List.getElem_mem hjl, by rw [ht, hv, hc], fun R h => ?_, fun R h => ?_⟩
      · rw [ht] at h
        obtain ⟨K3, g3⟩ := h
        refine ⟨max K1 (max K2 K3) + 1, fun N hN => ?_⟩
        obtain ⟨k, rfl, k1, k2, k3⟩ := max3 hN
        simp only [spec_FirstKeyed.l1]
        rw [if_pos hJ, if_pos (Int.natCast_nonneg _), if_pos hJ2, rd_ints hjl, hm, hmv, obind, g1 k k1, obind, if_pos (Int.natCast_nonneg _), if_pos hnt, g2 k k2, obind, if_pos (Int.natCast_nonneg _), if_pos hna, hrT, hrA, hw1, if_pos (by rw [hc]), if_pos hx2]
        exact g3 k k3
      · rw [ht] at h
        refine Ev.step (fun k => ?_) h
        simp only [impl_FirstKeyed.l1]
        rw [if_pos hJ2, if_pos (Int.natCast_nonneg _), rd_ints hjl, hm, htu, obind, if_pos hsz, hfT, hfA, hw1, if_pos (by rw [hc])]
    · have hne : ¬ ((v : Int) = (n : Int)) := fun h => hc (Int.ofNat.inj h)
      obtain ⟨m', h0, h1, h2, h3⟩ := ih (j + 1) (ar_j hj) (by
        obtain ⟨i, hi, hji, hfi⟩ := hw
        refine ⟨i, hi, ?_, hfi⟩
        by_cases e : i = j
        · subst e
          rw [hm, ht, hv] at hfi
          exact absurd (Option.some.inj hfi) hc
        · exact Nat.lt_of_le_of_ne hji (fun h => e h.symm))
      refine ⟨m', h0, h1, fun R h => ?_, fun R h => ?_⟩
      · obtain ⟨K3, g3⟩ := h2 R h
        refine ⟨max K1 (max K2 K3) + 1, fun N hN => ?_⟩
        obtain ⟨k, rfl, k1, k2, k3⟩ := max3 hN
        simp only [spec_FirstKeyed.l1]
        rw [if_pos hJ, if_pos (Int.natCast_nonneg _), if_pos hJ2, rd_ints hjl, hm, hmv, obind, g1 k k1, obind, if_pos (Int.natCast_nonneg _), if_pos hnt, g2 k k2, obind, if_pos (Int.natCast_nonneg _), if_pos hna, hrT, hrA, hw1, if_neg hne, hsj]
        exact g3 k k3
      · refine Ev.step (fun k => ?_) (h3 R h)
        simp only [impl_FirstKeyed.l1]
        rw [if_pos hJ2, if_pos (Int.natCast_nonneg _), rd_ints hjl, hm, htu, obind, if_pos hsz, hfT, hfA, hw1, if_neg hne, hsj]
/-- A list of moves by keys that leads from one state to another. -/
inductive LeadsK (ks : List Stt) (t : Stt) : Stt → List Nat → Prop
  | nil : LeadsK ks t t []
  | cons {s : Stt} {k : Nat} {l : List Nat} : k ∈ mvK ks s ks.length → LeadsK ks t (flipAt s k) l → LeadsK ks t s (k :: l)
theorem outer {ks : List Stt} (hk : keysOk ks = true) {b : Stt} (hb : okN ks.length b) {F : List Int} (hFr : FarN ks.length F (foundK ks b)) : ∀ n (a : Stt) (x : List Int), okN ks.length a → (foundK ks b).far a = some n → x.length + n ≤ 2000 →
    ∃ ms : List Nat, ms.length = n ∧ LeadsK ks b a ms ∧ Ev (fun k => spec_FirstKeyed.l0 k (ks.map tx) (tx a) (tx b) F x) (x ++ ints ms, true) ∧ Ev (fun k => impl_FirstKeyed.l0 (ks.map tx) (fB (foundK ks b)) (tx b) k (tx a) x) (x ++ ints ms, true) := by
  have hI : Inv (stepK ks) b (foundK ks b) (foundK ks b).q.length := (found_good (setupK hk) hb).1
  intro n
  induction n with
  | zero =>
    intro a x hoa ha hx
    have hab : a = b := by
      have := hI.path a 0 ha
      cases this
      rfl
    subst hab
    have ex : x ++ ints [] = x := List.append_nil x
    refine ⟨[], rfl, LeadsK.nil, Ev.step (f := fun _ => some (x ++ ints [], true)) (fun k => ?_) (Ev.now _), Ev.step (f := fun _ => some (x ++ ints [], true)) (fun k => ?_) (Ev.now _)⟩
    · simp only [spec_FirstKeyed.l0]
      rw [if_pos trivial, ex]
    · simp only [impl_FirstKeyed.l0]
      rw [if_pos trivial, ex]
  | succ n ih =>
    intro a x hoa ha hx
    have hne : ¬ ((tx a).toList = (tx b).toList) := fun h => by
      rw [toL_tx] at h
      rw [h, hI.zero] at ha
      cases ha
    obtain ⟨i, hi, hfi⟩ := down hk hb ha
    obtain ⟨m, hmm, hm, e1, e2⟩ := inner hk hb hFr hoa (by omega) ha x (by omega) (mvK ks a ks.length).length 0 (Nat.zero_add _) ⟨i, hi, Nat.zero_le _, hfi⟩
    obtain ⟨ms, hln, hR, h1, h2⟩ := ih (flipAt a m) (x ++ [((m : Nat) : Int)]) (okN_flip hoa m) hm (by rw [List.length_append, List.length_singleton]; omega)
    have ex : (x ++ [((m : Nat) : Int)]) ++ ints ms = x ++ ints (m :: ms) := by rw [List.append_assoc]; rfl
    rw [ex] at h1 h2
    refine ⟨m :: ms, by rw [List.length_cons, hln], LeadsK.cons hmm hR, ?_, ?_⟩
    · refine ev_num (keMoves hk hoa) (e1 _ h1) (fun k hk2 => ?_)
      simp only [spec_FirstKeyed.l0]
      rw [if_neg hne, hk2, obind, ints_len]
      rfl
    · refine ev_num (keyedMoves hk hoa) (e2 _ h2) (fun k hk2 => ?_)
      simp only [impl_FirstKeyed.l0]
      rw [if_neg hne, hk2, obind]
      rfl
def FirstP (ks : List Stt) (s t : Stt) (R : List Int × Bool) : Prop := (R = ([], false) ∧ ((askK ks s && askK ks t) = true → (foundK ks t).far s = none)) ∨ ((askK ks s && askK ks t) = true ∧ ∃ ms : List Nat, (foundK ks t).far s = some ms.length ∧ LeadsK ks t s ms ∧ R = (ints ms, true))
theorem first_both (ks : List Stt) (s t : Stt) (hn : ks.length ≤ 1048576) : ∃ R : List Int × Bool, FirstP ks s t R ∧ Ev (fun k => spec_FirstKeyed.f k (ks.map tx) (tx s) (tx t)) R ∧ Ev (fun k => impl_FirstKeyed.f k (ks.map tx) (tx s) (tx t)) R := by
  have h1 := keTwo ks s t hn
  have h2 := keyed_two ks s t hn
  cases ha : (askK ks s && askK ks t) with
  | false =>
    rw [ha] at h1 h2
    exact ⟨([], false), Or.inl ⟨rfl, fun h => absurd (ha.symm.trans h) Bool.false_ne_true⟩, by unfold spec_FirstKeyed.f; exact Ev.bind h1 (Ev.congr (fun k => if_neg (by simp)) (Ev.now _)), by unfold impl_FirstKeyed.f; exact Ev.bind h2 (Ev.congr (fun k => if_neg (by simp)) (Ev.now _))⟩
  | true =>
    rw [ha] at h1 h2
    have haa := ha
    rw [Bool.and_eq_true] at ha
    obtain ⟨hk, hs⟩ := ask_parts ha.1
    obtain ⟨_, ht⟩ := ask_parts ha.2
    have hn10 := (keys_parts hk).1.2
    have hpw := pow10 hn10
    obtain ⟨F, W, hF, h⟩ := keFar hk ht
    obtain ⟨hI, hG⟩ := found_good (setupK hk) ht
    have hI : Inv (stepK ks) t (foundK ks t) (foundK ks t).q.length := hI
    have hG : GoodS (okN ks.length) (foundK ks t) := hG
    have hlen := hG.len (setupK hk) hI.nodup
    have hnt : ((num s : Nat) : Int) < (F.length : Int) := by rw [hF.1]; exact Int.ofNat_lt.2 (numN_lt hs)
    have hrF : rd F ((num s : Nat) : Int) = fz ((foundK ks t).far s) := hF.2 s hs
    have hsome : (fB (foundK ks t) (tx s)).isSome = ((foundK ks t).far s).isSome := by rw [fB_tx]; cases (foundK ks t).far s <;> rfl
    have pre1 : ∀ R, (∀ k, (if rd F ((num s : Nat) : Int) < 0 then some (([] : List Int), false) else spec_FirstKeyed.l0 k (ks.map tx) (tx s) (tx t) F ([] : List Int)) = (if (foundK ks t).far s = none then some (([] : List Int), false) else spec_FirstKeyed.l0 k (ks.map tx) (tx s) (tx t) F ([] : List Int))) → Ev (fun k => if (foundK ks t).far s = none then some (([] : List Int), false) else spec_FirstKeyed.l0 k (ks.map tx) (tx s) (tx t) F ([] : List Int)) R → Ev (fun k => spec_FirstKeyed.f k (ks.map tx) (tx s) (tx t)) R := fun R he hR => by
      unfold spec_FirstKeyed.f
      refine Ev.bind h1 (Ev.congr (fun k => if_pos rfl) (Ev.bind h (Ev.bind (riNum hn10 hs) ?_)))
      refine Ev.congr (fun k => ?_) hR
      rw [if_pos (Int.natCast_nonneg _), if_pos hnt]
      exact he k
    have heq : ∀ k, (if rd F ((num s : Nat) : Int) < 0 then some (([] : List Int), false) else spec_FirstKeyed.l0 k (ks.map tx) (tx s) (tx t) F ([] : List Int)) = (if (foundK ks t).far s = none then some (([] : List Int), false) else spec_FirstKeyed.l0 k (ks.map tx) (tx s) (tx t) F ([] : List Int)) := fun k => by
      rw [hrF]
      by_cases e : (foundK ks t).far s = none
      · rw [if_pos e, if_pos (fz_neg.2 e)]
      · rw [if_neg e, if_neg (fun h => e (fz_neg.1 h))]
    have pre2 : ∀ R, Ev (fun k => if (fB (foundK ks t) (tx s)).isSome = true then impl_FirstKeyed.l0 (ks.map tx) (fB (foundK ks t)) (tx t) k (tx s) [] else some ([], false)) R → Ev (fun k => impl_FirstKeyed.f k (ks.map tx) (tx s) (tx t)) R := fun R hR => by
      unfold impl_FirstKeyed.f
      exact Ev.bind h2 (Ev.congr (fun k => by rw [if_pos rfl, if_pos ⟨ok_smallK hn10 hs, ok_smallK hn10 ht⟩]) (Ev.bind (search_runK hk t ht) hR))
    cases e : (foundK ks t).far s with
    | none =>
      refine ⟨([], false), Or.inl ⟨rfl, fun _ => e⟩, pre1 _ heq (Ev.congr (fun k => if_pos e) (Ev.now _)), pre2 _ (Ev.congr (fun k => if_neg (by rw [hsome, e]; simp)) (Ev.now _))⟩
    | some n =>
      have hb := hG.bnd s n e
      obtain ⟨ms, hln, hR, g1, g2⟩ := outer hk ht hF n s [] hs e (by rw [List.length_nil]; omega)
      exact ⟨(ints ms, true), Or.inr ⟨haa, ms, by rw [e, hln], hR, rfl⟩, pre1 _ heq (Ev.congr (fun k => if_neg (by rw [e]; simp)) g1), pre2 _ (Ev.congr (fun k => if_pos (by rw [hsome, e]; rfl)) g2)⟩
def movesR (ks : List Stt) (s : Stt) : List Int × Bool := if askK ks s = true then (ints (mvK ks s ks.length), true) else ([], false)
theorem movesR_len (ks : List Stt) (s : Stt) : (movesR ks s).1.length ≤ 1000 := by
  unfold movesR
  split
  · rename_i h
    obtain ⟨hk, _⟩ := ask_parts h
    have h1 := (keys_parts hk).1.2
    have h2 := mvK_len ks s ks.length
    show (ints (mvK ks s ks.length)).length ≤ 1000
    rw [ints_len]
    omega
  · exact Nat.zero_le _
theorem spec_moves (ks : List Stt) (s : Stt) (hn : ks.length ≤ 1048576) : Ev (fun k => spec_KeyedMoves.f k (ks.map tx) (tx s)) (movesR ks s) := by
  unfold spec_KeyedMoves.f movesR
  refine Ev.bind (keAsked ks s hn) ?_
  cases ha : askK ks s with
  | false => exact Ev.congr (fun k => if_neg (by simp)) (Ev.now _)
  | true =>
    obtain ⟨hk, hs⟩ := ask_parts ha
    exact Ev.congr (fun k => if_pos rfl) (Ev.bind (f := fun _ t => some (t, true)) (keMoves hk hs) (Ev.now _))
theorem impl_moves (ks : List Stt) (s : Stt) (hn : ks.length ≤ 1048576) : Ev (fun k => impl_KeyedMoves.f k (ks.map tx) (tx s)) (movesR ks s) := by
  unfold impl_KeyedMoves.f movesR
  refine Ev.bind (keyed_one ks s hn) ?_
  cases ha : askK ks s with
  | false => exact Ev.congr (fun k => if_neg (by simp)) (Ev.now _)
  | true =>
    obtain ⟨hk, hs⟩ := ask_parts ha
    exact Ev.congr (fun k => if_pos rfl) (Ev.bind (f := fun _ t => some (t, true)) (keyedMoves hk hs) (Ev.now _))
theorem nodup_le : ∀ (l m : List Nat), l.Nodup → (∀ x ∈ l, x ∈ m) → l.length ≤ m.length
  | [], m, _, _ => Nat.zero_le _
  | a :: l, m, h, hs => by
    obtain ⟨h1, h2⟩ := List.nodup_cons.1 h
    have ha := hs a (by simp)
    have h3 := nodup_le l (m.erase a) h2 (fun x hx => by
      have hxa : x ≠ a := fun e => h1 (e ▸ hx)
      exact (List.mem_erase_of_ne hxa).2 (hs x (by simp [hx])))
    rw [List.length_erase_of_mem ha] at h3
    have hp : 0 < m.length := List.length_pos_of_mem ha
    rw [List.length_cons]
    omega
def reachedL (F : List Int) (n : Nat) : List Nat := (List.range n).filter (fun i => decide (0 ≤ F.getD i 0))
theorem reachedL_succ (F : List Int) (n : Nat) : reachedL F (n + 1) = if 0 ≤ F.getD n 0 then reachedL F n ++ [n] else reachedL F n := by
  unfold reachedL
  rw [List.range_succ, List.filter_append]
  by_cases h : 0 ≤ F.getD n 0
  · rw [if_pos h, List.filter_cons_of_pos (p := fun i => decide (0 ≤ F.getD i 0)) (decide_eq_true h), List.filter_nil]
  · rw [if_neg h, List.filter_cons_of_neg (p := fun i => decide (0 ≤ F.getD i 0)) (by simpa using h), List.filter_nil, List.append_nil]
theorem reachedL_le (F : List Int) (n : Nat) : (reachedL F n).length ≤ n := by
  unfold reachedL
  exact Nat.le_trans (List.length_filter_le _ _) (by simp)
theorem reached_l0 (F : List Int) (hF : F.length ≤ 1048576) : ∀ d i, i + d = F.length → Ev (fun k => spec_keReached.l0 k ((reachedL F i).length : Int) F (F.length : Int) (i : Int)) ((reachedL F F.length).length : Int) := by
  intro d
  induction d with
  | zero =>
    intro i hi
    obtain rfl : i = F.length := by omega
    refine Ev.step (f := fun _ => some ((reachedL F F.length).length : Int)) (fun k => ?_) (Ev.now _)
    simp only [spec_keReached.l0]
    rw [if_neg (Int.lt_irrefl _)]
  | succ d ih =>
    intro i hi
    have hil : i < F.length := by omega
    have h9 := reachedL_le F i
    refine Ev.step (fun k => ?_) (ih (i + 1) (by omega))
    simp only [spec_keReached.l0]
    rw [if_pos (Int.ofNat_lt.2 hil), if_pos (Int.natCast_nonneg _), if_pos (Int.ofNat_lt.2 hil), rdDk, succ64 (n := i) (by omega), reachedL_succ]
    by_cases h : 0 ≤ F.getD i 0
    · rw [if_pos (show F.getD i 0 ≥ 0 from h), if_pos h, List.length_append, succ64 (n := (reachedL F i).length) (by omega)]
      rfl
    · rw [if_neg (show ¬ F.getD i 0 ≥ 0 from h), if_neg h]
theorem stOf_okN {n m : Nat} : okN n (stOf n m) := ⟨stOf_length n m, stOf_ok n m⟩
theorem reached_eq {ks : List Stt} (hk : keysOk ks = true) {s : Stt} (hs : okN ks.length s) {F : List Int} (hF : FarN ks.length F (foundK ks s)) : (reachedL F F.length).length = (foundK ks s).q.length := by
  obtain ⟨hI, hG⟩ := found_good (setupK hk) hs
  have hI : Inv (stepK ks) s (foundK ks s) (foundK ks s).q.length := hI
  have hG : GoodS (okN ks.length) (foundK ks s) := hG
  have hm : ((foundK ks s).q.map num).Nodup := by
    unfold List.Nodup
    rw [List.pairwise_map]
    exact List.Pairwise.imp_of_mem (fun ha hb hne e => hne (numN_inj (hG.ok _ ha) (hG.ok _ hb) e)) hI.nodup
  have e1 : (reachedL F F.length).length ≤ ((foundK ks s).q.map num).length := by
    refine nodup_le _ _ (List.Pairwise.filter _ List.nodup_range) (fun x hx => ?_)
    unfold reachedL at hx
    rw [List.mem_filter, List.mem_range, decide_eq_true_eq, hF.1] at hx
    have hn := num_stOf ks.length x hx.1
    have h2 := hF.2 (stOf ks.length x) stOf_okN
    rw [hn] at h2
    have h3 : ((foundK ks s).far (stOf ks.length x)).isSome = true := by
      cases e : (foundK ks s).far (stOf ks.length x) with
      | none => rw [h2, e] at hx; exact absurd hx.2 (by decide)
      | some v => rfl
    rw [List.mem_map]
    exact ⟨_, (hI.iff _).1 h3, hn⟩
  have e2 : ((foundK ks s).q.map num).length ≤ (reachedL F F.length).length := by
    refine nodup_le _ _ hm (fun x hx => ?_)
    obtain ⟨t, ht, rfl⟩ := List.mem_map.1 hx
    have hot := hG.ok t ht
    unfold reachedL
    rw [List.mem_filter, List.mem_range, decide_eq_true_eq, hF.1, hF.2 t hot]
    refine ⟨numN_lt hot, ?_⟩
    obtain ⟨v, hv⟩ := Option.isSome_iff_exists.1 ((hI.iff t).2 ht)
    rw [hv]
    exact Int.natCast_nonneg v
  rw [List.length_map] at e1 e2
  omega
def cntV (ks : List Stt) (s : Stt) : Int × Bool := if askK ks s = true then (((foundK ks s).q.length : Int), true) else (0, false)
theorem count_both (ks : List Stt) (s : Stt) (hn : ks.length ≤ 1048576) : Ev (fun k => spec_CountReachedBy.f k (ks.map tx) (tx s)) (cntV ks s) ∧ Ev (fun k => impl_CountReachedBy.f k (ks.map tx) (tx s)) (cntV ks s) := by
  unfold cntV
  refine ⟨?_, ?_⟩
  · unfold spec_CountReachedBy.f
    refine Ev.bind (keAsked ks s hn) ?_
    cases ha : askK ks s with
    | false => exact Ev.congr (fun k => if_neg (by simp)) (Ev.now _)
    | true =>
      rw [if_pos rfl]
      obtain ⟨hk, hs⟩ := ask_parts ha
      obtain ⟨F, W, hF, h⟩ := keFar hk hs
      have h9 := pow10 (keys_parts hk).1.2
      have hr := reached_l0 F (by rw [hF.1]; omega) F.length 0 (Nat.zero_add _)
      rw [reached_eq hk hs hF] at hr
      have hre : Ev (fun k => spec_keReached.f k (ks.map tx) (tx s)) ((foundK ks s).q.length : Int) := by
        unfold spec_keReached.f
        exact Ev.bind h hr
      exact Ev.congr (fun k => if_pos rfl) (Ev.bind (f := fun _ t => some (t, true)) hre (Ev.now _))
  · unfold impl_CountReachedBy.f
    refine Ev.bind (keyed_one ks s hn) ?_
    cases ha : askK ks s with
    | false => exact Ev.congr (fun k => if_neg (by simp)) (Ev.now _)
    | true =>
      rw [if_pos rfl]
      obtain ⟨hk, hs⟩ := ask_parts ha
      refine Ev.congr (fun k => by rw [if_pos rfl, if_pos (ok_smallK (keys_parts hk).1.2 hs)]) (Ev.bind (f := fun _ (q : List ByteArray × (ByteArray → Option Int) × (ByteArray → Option Int)) => some ((q.1.length : Int), true)) (search_runK hk s hs) (Ev.congr (fun k => ?_) (Ev.now _)))
      rw [List.length_map]
theorem riState_l0 (r n : Nat) (hr : r ≤ 60) (hn : n < 4611686018427387904) : ∀ (d j k : Nat), j ≤ r → r - j = d → d < k →
    spec_riState.l0 k (r : Int) (n : Int) ⟨(stOf j n).toArray⟩ (j : Int) = some ⟨(stOf r n).toArray⟩ := by
  intro d
  induction d with
  | zero =>
    intro j k hj hd hk
    obtain ⟨k, rfl⟩ : ∃ j, k = j + 1 := ⟨k - 1, by omega⟩
    have : j = r := by omega
    subst this
    simp only [spec_riState.l0]
    rw [if_neg (by omega)]
  | succ d ih =>
    intro j k hj hd hk
    obtain ⟨k, rfl⟩ : ∃ j, k = j + 1 := ⟨k - 1, by omega⟩
    have ew : wrap64 ((j : Int) + 1) = ((j + 1 : Nat) : Int) := by rw [w64 (by omega) (by omega)]; omega
    have e := ih (j + 1) k (by omega) (by omega) (by omega)
    simp only [spec_riState.l0]
    rw [if_pos (by omega), if_pos (by omega), ew, if_pos (by omega), shr_nat _ _ (by omega), shr_nat _ _ (by omega), and_one _ (div_lt_big n j hn), and_one _ (div_lt_big n (j + 1) hn)]
    have hsz : (⟨(stOf j n).toArray⟩ : ByteArray).size + 1 ≤ 9223372036854775807 := by rw [size_eq]; simp [stOf_length]; omega
    rw [if_pos hsz, append_one, append_one]
    rw [stOf_take] at e
    unfold sign at e
    by_cases h : n / 2 ^ j % 2 = n / 2 ^ (j + 1) % 2
    · rw [if_pos (by omega)]
      rw [if_pos h] at e
      exact e
    · rw [if_neg (by omega)]
      rw [if_neg h] at e
      rw [if_pos hsz]
      exact e
theorem riState (r n : Nat) (hr : r ≤ 60) (hn : n < 4611686018427387904) : Ev (fun k => spec_riState.f k (r : Int) (n : Int)) ⟨(stOf r n).toArray⟩ :=
  Ev.of (k := r + 1) (fun k => spec_riState.mono _ _ k) (riState_l0 r n hr hn r 0 (r + 1) (by omega) (by omega) (by omega))

/-- A state read as a number from the front. -/
def val : Stt → Nat
  | [] => 0
  | c :: l => (if c = 49 then 2 ^ l.length else 0) + val l
theorem val_cons (c : UInt8) (l : Stt) : val (c :: l) = (if c = 49 then 2 ^ l.length else 0) + val l := rfl
theorem val_lt : ∀ l, val l < 2 ^ l.length
  | [] => by decide
  | c :: l => by
    have h := val_lt l
    rw [List.length_cons, Nat.pow_succ]
    unfold val
    split <;> omega
theorem val_inj : ∀ {a b : Stt}, a.all okc = true → b.all okc = true → a.length = b.length → val a = val b → a = b
  | [], [], _, _, _, _ => rfl
  | [], _ :: _, _, _, h, _ => by simp at h
  | _ :: _, [], _, _, h, _ => by simp at h
  | c :: a, d :: b, ha, hb, hl, hv => by
    simp only [List.all_cons, Bool.and_eq_true] at ha hb
    simp only [List.length_cons, Nat.add_right_cancel_iff] at hl
    have h1 := val_lt a
    have h2 := val_lt b
    unfold val at hv
    rw [hl] at h1 hv
    have hcd : c = d := by
      rcases okc_cases ha.1 with rfl | rfl <;> rcases okc_cases hb.1 with rfl | rfl
      · rfl
      · rw [if_neg (by decide), if_pos rfl] at hv; omega
      · rw [if_pos rfl, if_neg (by decide)] at hv; omega
      · rfl
    subst hcd
    rw [val_inj ha.2 hb.2 hl (by omega)]
theorem less_list : ∀ {a b : Stt}, a.all okc = true → b.all okc = true → a.length = b.length → Op.bytesLess a b = decide (val a < val b)
  | [], [], _, _, _ => by simp [Op.bytesLess, val]
  | [], _ :: _, _, _, h => by simp at h
  | _ :: _, [], _, _, h => by simp at h
  | c :: a, d :: b, ha, hb, hl => by
    simp only [List.all_cons, Bool.and_eq_true] at ha hb
    simp only [List.length_cons, Nat.add_right_cancel_iff] at hl
    have h1 := val_lt a
    have h2 := val_lt b
    rw [hl] at h1
    rw [Op.bytesLess, less_list ha.2 hb.2 hl, val_cons, val_cons, hl]
    rcases okc_cases ha.1 with rfl | rfl <;> rcases okc_cases hb.1 with rfl | rfl
    · simp
    · rw [if_neg (by decide), if_pos rfl, decide_eq_true (show 0 + val a < 2 ^ b.length + val b by omega)]
      rfl
    · rw [if_pos rfl, if_neg (by decide), decide_eq_false (show ¬ 2 ^ b.length + val a < 0 + val b by omega)]
      rfl
    · rw [if_pos rfl, decide_eq_false (show ¬ (49 : UInt8) < 49 by decide)]
      simp
theorem less_val {n : Nat} {s t : Stt} (hs : okN n s) (ht : okN n t) : Op.bytesLess (tx s).toList (tx t).toList = decide (val s < val t) := by
  rw [Go.Lib.toList_data, Go.Lib.toList_data, tx_data, tx_data]
  exact less_list hs.2 ht.2 (by rw [hs.1, ht.1])
def wt (st : St Stt) (s : Stt) : Int := fz (st.far s)
def bet2 (st : St Stt) (s t : Stt) : Prop := wt st t < wt st s ∨ (wt st t = wt st s ∧ val s ≤ val t)
theorem bet2.trans {st : St Stt} {a b c : Stt} (h1 : bet2 st a b) (h2 : bet2 st b c) : bet2 st a c := by unfold bet2 at *; omega
theorem bet2.refl (st : St Stt) (a : Stt) : bet2 st a a := by unfold bet2; omega
theorem impl_far_l0 {n : Nat} (hn : n ≤ 10) {st : St Stt} (hok : ∀ x ∈ st.q, okN n x) (hf : ∀ x ∈ st.q, (fB st (tx x)).getD 0 = wt st x) (hlen : st.q.length ≤ 1000000) : ∀ d i b, i + d = st.q.length → b ∈ st.q → (∀ j (hj : j < st.q.length), j < i → bet2 st b st.q[j]) →
    ∃ c, c ∈ st.q ∧ (∀ x ∈ st.q, bet2 st c x) ∧ Ev (fun k => impl_reached_farthest.l0 (st.q.map tx) (fB st) k (tx b) (i : Int)) (tx c, wt st c) := by
  intro d
  induction d with
  | zero =>
    intro i b hi hb hj
    refine ⟨b, hb, fun x hx => ?_, Ev.step (f := fun _ => some (tx b, wt st b)) (fun k => ?_) (Ev.now _)⟩
    · obtain ⟨j, hjl, rfl⟩ := List.getElem_of_mem hx
      exact hj j hjl (by omega)
    · simp only [impl_reached_farthest.l0]
      rw [List.length_map, if_neg (fun h => by have := Int.ofNat_lt.1 h; omega), if_pos (ok_smallK hn (hok b hb)), hf b hb]
  | succ d ih =>
    intro i b hi hb hj
    have hil : i < st.q.length := by omega
    obtain ⟨u, hu⟩ : ∃ u, st.q[i] = u := ⟨_, rfl⟩
    have huq : u ∈ st.q := hu ▸ List.getElem_mem hil
    have hsi : wrap64 ((i : Int) + 1) = ((i + 1 : Nat) : Int) := succ64 (by omega)
    have hless := less_val (hok u huq) (hok b hb)
    have e0 : ∀ k, impl_reached_farthest.l0 (st.q.map tx) (fB st) (k + 1) (tx b) (i : Int) = (if wt st u > wt st b then impl_reached_farthest.l0 (st.q.map tx) (fB st) k (tx u) ((i + 1 : Nat) : Int) else (if wt st u = wt st b then (if decide (val u < val b) = true then impl_reached_farthest.l0 (st.q.map tx) (fB st) k (tx u) ((i + 1 : Nat) : Int) else impl_reached_farthest.l0 (st.q.map tx) (fB st) k (tx b) ((i + 1 : Nat) : Int)) else impl_reached_farthest.l0 (st.q.map tx) (fB st) k (tx b) ((i + 1 : Nat) : Int))) := by
      intro k
      simp only [impl_reached_farthest.l0]
      rw [if_pos (show (i : Int) < ((st.q.map tx).length : Int) by rw [List.length_map]; exact Int.ofNat_lt.2 hil), if_pos (Int.natCast_nonneg _), rdM hil, hu, if_pos ⟨ok_smallK hn (hok u huq), ok_smallK hn (hok b hb)⟩, hf u huq, hf b hb, hless, hsi]
    have take : bet2 st u b → (∀ k, impl_reached_farthest.l0 (st.q.map tx) (fB st) (k + 1) (tx b) (i : Int) = impl_reached_farthest.l0 (st.q.map tx) (fB st) k (tx u) ((i + 1 : Nat) : Int)) → (∃ c, c ∈ st.q ∧ (∀ x ∈ st.q, bet2 st c x) ∧ Ev (fun k => impl_reached_farthest.l0 (st.q.map tx) (fB st) k (tx b) (i : Int)) (tx c, wt st c)) := fun hbt he => by
      obtain ⟨c, hc, h2, h3⟩ := ih (i + 1) u (by omega) huq (fun j hjl hji => by
        by_cases e : j = i
        · subst e; rw [hu]; exact bet2.refl _ _
        · exact hbt.trans (hj j hjl (by omega)))
      exact ⟨c, hc, h2, Ev.step he h3⟩
    have keep : bet2 st b u → (∀ k, impl_reached_farthest.l0 (st.q.map tx) (fB st) (k + 1) (tx b) (i : Int) = impl_reached_farthest.l0 (st.q.map tx) (fB st) k (tx b) ((i + 1 : Nat) : Int)) → (∃ c, c ∈ st.q ∧ (∀ x ∈ st.q, bet2 st c x) ∧ Ev (fun k => impl_reached_farthest.l0 (st.q.map tx) (fB st) k (tx b) (i : Int)) (tx c, wt st c)) := fun hbt he => by
      obtain ⟨c, hc, h2, h3⟩ := ih (i + 1) b (by omega) hb (fun j hjl hji => by
        by_cases e : j = i
        · subst e; rw [hu]; exact hbt
        · exact hj j hjl (by omega))
      exact ⟨c, hc, h2, Ev.step he h3⟩
    by_cases c1 : wt st u > wt st b
    · exact take (Or.inl c1) (fun k => by rw [e0 k, if_pos c1])
    · by_cases c2 : wt st u = wt st b
      · by_cases c3 : val u < val b
        · exact take (Or.inr ⟨c2.symm, Nat.le_of_lt c3⟩) (fun k => by rw [e0 k, if_neg c1, if_pos c2, if_pos (decide_eq_true c3)])
        · exact keep (Or.inr ⟨c2, Nat.le_of_not_lt c3⟩) (fun k => by rw [e0 k, if_neg c1, if_pos c2, if_neg (by rw [decide_eq_true_eq]; exact c3)])
      · exact keep (Or.inl (Int.lt_iff_le_and_ne.2 ⟨Int.not_lt.1 c1, c2⟩)) (fun k => by rw [e0 k, if_neg c1, if_neg c2])
theorem spec_far_l0 {n : Nat} (hn : n ≤ 10) {F : List Int} {st : St Stt} (hF : FarN n F st) (hp : ∀ x ∈ st.q, 0 ≤ wt st x) (hi9 : ∀ x, okN n x → wt st x ≠ -1 → x ∈ st.q) (a1 : ByteArray) (ha1 : a1.size = n) : ∀ d i b, i + d = 2 ^ n → okN n b → b ∈ st.q → (∀ j, j < i → bet2 st b (stOf n j)) →
    ∃ c, okN n c ∧ c ∈ st.q ∧ (∀ j, j < 2 ^ n → bet2 st c (stOf n j)) ∧ Ev (fun k => spec_FarthestByKeys.l0 k a1 (tx b) (wt st b) F ((2 ^ n : Nat) : Int) (i : Int)) (tx c, wt st c, true) := by
  have hpw := pow10 hn
  intro d
  induction d with
  | zero =>
    intro i b hi hob hb hj
    obtain rfl : i = 2 ^ n := by omega
    refine ⟨b, hob, hb, hj, Ev.step (f := fun _ => some (tx b, wt st b, true)) (fun k => ?_) (Ev.now _)⟩
    simp only [spec_FarthestByKeys.l0]
    rw [if_neg (Int.lt_irrefl _)]
  | succ d ih =>
    intro i b hi hob hb hj
    have hil : i < 2 ^ n := by omega
    obtain ⟨u, hu⟩ : ∃ u, stOf n i = u := ⟨_, rfl⟩
    have hou : okN n u := hu ▸ stOf_okN
    have hnu : num u = i := by rw [← hu]; exact num_stOf n i hil
    have hFu : rd F (i : Int) = wt st u := by have := hF.2 u hou; rw [hnu] at this; exact this
    have hsi : wrap64 ((i : Int) + 1) = ((i + 1 : Nat) : Int) := succ64 (by omega)
    have hst := riState n i (by omega) (by omega)
    have hst2 : Ev (fun k => spec_riState.f k (n : Int) (i : Int)) (tx u) := by rw [← hu]; exact hst
    have hless := less_val hou hob
    have e0 : ∀ k, spec_riState.f k (n : Int) (i : Int) = some (tx u) → spec_FarthestByKeys.l0 (k + 1) a1 (tx b) (wt st b) F ((2 ^ n : Nat) : Int) (i : Int) = (if wt st u > wt st b then spec_FarthestByKeys.l0 k a1 (tx u) (wt st u) F ((2 ^ n : Nat) : Int) ((i + 1 : Nat) : Int) else (if wt st u = wt st b then (if decide (val u < val b) = true then spec_FarthestByKeys.l0 k a1 (tx u) (wt st u) F ((2 ^ n : Nat) : Int) ((i + 1 : Nat) : Int) else spec_FarthestByKeys.l0 k a1 (tx b) (wt st b) F ((2 ^ n : Nat) : Int) ((i + 1 : Nat) : Int)) else spec_FarthestByKeys.l0 k a1 (tx b) (wt st b) F ((2 ^ n : Nat) : Int) ((i + 1 : Nat) : Int))) := by
      intro k hk
      simp only [spec_FarthestByKeys.l0]
      rw [if_pos (Int.ofNat_lt.2 hil), if_pos (Int.natCast_nonneg _), if_pos (by rw [hF.1]; exact Int.ofNat_lt.2 hil), ha1, hk, obind, hFu, hless, hsi]
    have hb0 := hp b hb
    have G : ∀ P : Prop, P → P := fun _ h => h
    have take : bet2 st u b → u ∈ st.q → (∀ k, spec_riState.f k (n : Int) (i : Int) = some (tx u) → spec_FarthestByKeys.l0 (k + 1) a1 (tx b) (wt st b) F ((2 ^ n : Nat) : Int) (i : Int) = spec_FarthestByKeys.l0 k a1 (tx u) (wt st u) F ((2 ^ n : Nat) : Int) ((i + 1 : Nat) : Int)) → ∃ c, okN n c ∧ c ∈ st.q ∧ (∀ j, j < 2 ^ n → bet2 st c (stOf n j)) ∧ Ev (fun k => spec_FarthestByKeys.l0 k a1 (tx b) (wt st b) F ((2 ^ n : Nat) : Int) (i : Int)) (tx c, wt st c, true) := fun hbt huq he => by
      obtain ⟨c, hc1, hc, h2, h3⟩ := ih (i + 1) u (by omega) hou huq (fun j hji => by
        by_cases e : j = i
        · subst e; rw [hu]; exact bet2.refl _ _
        · exact hbt.trans (hj j (by omega)))
      exact ⟨c, hc1, hc, h2, ev_num hst2 h3 he⟩
    have keep : bet2 st b u → (∀ k, spec_riState.f k (n : Int) (i : Int) = some (tx u) → spec_FarthestByKeys.l0 (k + 1) a1 (tx b) (wt st b) F ((2 ^ n : Nat) : Int) (i : Int) = spec_FarthestByKeys.l0 k a1 (tx b) (wt st b) F ((2 ^ n : Nat) : Int) ((i + 1 : Nat) : Int)) → ∃ c, okN n c ∧ c ∈ st.q ∧ (∀ j, j < 2 ^ n → bet2 st c (stOf n j)) ∧ Ev (fun k => spec_FarthestByKeys.l0 k a1 (tx b) (wt st b) F ((2 ^ n : Nat) : Int) (i : Int)) (tx c, wt st c, true) := fun hbt he => by
      obtain ⟨c, hc1, hc, h2, h3⟩ := ih (i + 1) b (by omega) hob hb (fun j hji => by
        by_cases e : j = i
        · subst e; rw [hu]; exact hbt
        · exact hj j (by omega))
      exact ⟨c, hc1, hc, h2, ev_num hst2 h3 he⟩
    by_cases c1 : wt st u > wt st b
    · exact take (Or.inl c1) (hi9 u hou (by omega)) (fun k hk => by rw [e0 k hk, if_pos c1])
    · by_cases c2 : wt st u = wt st b
      · by_cases c3 : val u < val b
        · exact take (Or.inr ⟨c2.symm, Nat.le_of_lt c3⟩) (hi9 u hou (by omega)) (fun k hk => by rw [e0 k hk, if_neg c1, if_pos c2, if_pos (decide_eq_true c3)])
        · exact keep (Or.inr ⟨c2, Nat.le_of_not_lt c3⟩) (fun k hk => by rw [e0 k hk, if_neg c1, if_pos c2, if_neg (by rw [decide_eq_true_eq]; exact c3)])
      · exact keep (Or.inl (Int.lt_iff_le_and_ne.2 ⟨Int.not_lt.1 c1, c2⟩)) (fun k hk => by rw [e0 k hk, if_neg c1, if_neg c2])
def FarP (ks : List Stt) (s : Stt) (R : ByteArray × Int × Bool) : Prop := (askK ks s = false ∧ R = (⟨#[]⟩, 0, false)) ∨ (askK ks s = true ∧ ∃ (c : Stt) (m : Nat), okN ks.length c ∧ (foundK ks s).far c = some m ∧ (∀ x v, (foundK ks s).far x = some v → v ≤ m) ∧ R = (tx c, (m : Int), true))
theorem far_both (ks : List Stt) (s : Stt) (hn : ks.length ≤ 1048576) : ∃ R, FarP ks s R ∧ Ev (fun k => spec_FarthestByKeys.f k (ks.map tx) (tx s)) R ∧ Ev (fun k => impl_FarthestByKeys.f k (ks.map tx) (tx s)) R := by
  have h1 := keAsked ks s hn
  have h2 := keyed_one ks s hn
  cases ha : askK ks s with
  | false =>
    rw [ha] at h1 h2
    exact ⟨(⟨#[]⟩, 0, false), Or.inl ⟨ha, rfl⟩, by unfold spec_FarthestByKeys.f; exact Ev.bind h1 (Ev.congr (fun k => if_neg (by simp)) (Ev.now _)), by unfold impl_FarthestByKeys.f; exact Ev.bind h2 (Ev.congr (fun k => if_neg (by simp)) (Ev.now _))⟩
  | true =>
    rw [ha] at h1 h2
    obtain ⟨hk, hs⟩ := ask_parts ha
    have hn10 := (keys_parts hk).1.2
    have hpw := pow10 hn10
    obtain ⟨F, W, hF, h⟩ := keFar hk hs
    obtain ⟨hI, hG⟩ := found_good (setupK hk) hs
    have hI : Inv (stepK ks) s (foundK ks s) (foundK ks s).q.length := hI
    have hG : GoodS (okN ks.length) (foundK ks s) := hG
    have hrun := search_runK hk s hs
    have hlen := hG.len (setupK hk) hI.nodup
    unfold FarP
    generalize foundK ks s = st at hF h hI hG hrun hlen ⊢
    have hsq : s ∈ st.q := (hI.iff s).1 (by rw [hI.zero]; rfl)
    have hws : wt st s = 0 := by unfold wt; rw [hI.zero]; rfl
    have hf : ∀ x ∈ st.q, (fB st (tx x)).getD 0 = wt st x := by
      intro x hx
      obtain ⟨v, hv⟩ := Option.isSome_iff_exists.1 ((hI.iff x).2 hx)
      rw [fB_tx]
      unfold wt
      rw [hv]
      rfl
    have hp : ∀ x ∈ st.q, 0 ≤ wt st x := by
      intro x hx
      obtain ⟨v, hv⟩ := Option.isSome_iff_exists.1 ((hI.iff x).2 hx)
      unfold wt
      rw [hv]
      exact Int.natCast_nonneg v
    have hi9 : ∀ x, okN ks.length x → wt st x ≠ -1 → x ∈ st.q := by
      intro x _ hx
      apply (hI.iff x).1
      unfold wt at hx
      cases e : st.far x with
      | none => rw [e] at hx; exact absurd rfl hx
      | some v => rfl
    obtain ⟨b, hob, hbq, hb2, hb3⟩ := spec_far_l0 hn10 hF hp hi9 (tx s) (by rw [tx_size, hs.1]) (2 ^ ks.length) 0 s (Nat.zero_add _) hs hsq (fun j hj => absurd hj (Nat.not_lt_zero _))
    obtain ⟨x0, hx0⟩ : ∃ x, st.q[0]'hI.pos = x := ⟨_, rfl⟩
    have hxq : x0 ∈ st.q := hx0 ▸ List.getElem_mem hI.pos
    obtain ⟨c, hcq, hc2, hc3⟩ := impl_far_l0 hn10 hG.ok hf (by omega) st.q.length 0 x0 (Nat.zero_add _) hxq (fun j _ hj => absurd hj (Nat.not_lt_zero _))
    have hoc := hG.ok c hcq
    have k1 := hc2 b hbq
    have k2 := hb2 (num c) (numN_lt hoc)
    have hcs : stOf ks.length (num c) = c := by have := stOf_num c hoc.2; rw [hoc.1] at this; exact this
    rw [hcs] at k2
    unfold bet2 at k1 k2
    have hce : c = b := val_inj hoc.2 hob.2 (by rw [hoc.1, hob.1]) (by omega)
    subst hce
    have hP : ∃ (d : Stt) (m : Nat), okN ks.length d ∧ st.far d = some m ∧ (∀ x v, st.far x = some v → v ≤ m) ∧ (tx c, wt st c, true) = (tx d, (m : Int), true) := by
      obtain ⟨m, hm⟩ := Option.isSome_iff_exists.1 ((hI.iff c).2 hcq)
      have hw : wt st c = (m : Int) := by unfold wt; rw [hm]; rfl
      refine ⟨c, m, hoc, hm, fun x v hv => ?_, by rw [hw]⟩
      have hx := hc2 x ((hI.iff x).1 (by rw [hv]; rfl))
      have hwx : wt st x = (v : Int) := by unfold wt; rw [hv]; rfl
      unfold bet2 at hx
      omega
    refine ⟨(tx c, wt st c, true), Or.inr ⟨ha, hP⟩, ?_, ?_⟩
    · unfold spec_FarthestByKeys.f
      refine Ev.bind h1 (Ev.congr (fun k => if_pos rfl) (Ev.bind h ?_))
      refine Ev.congr (fun k => ?_) hb3
      rw [hF.1, hws]
      rfl
    · unfold impl_FarthestByKeys.f
      refine Ev.bind h2 (Ev.congr (fun k => by rw [if_pos rfl, if_pos (ok_smallK hn10 hs)]) (Ev.bind hrun ?_))
      have hfar : Ev (fun k => impl_reached_farthest.f k (st.q.map tx) (fB st)) (tx c, wt st c) := by
        unfold impl_reached_farthest.f
        refine Ev.congr (fun k => ?_) hc3
        rw [if_pos (show (0 : Int) < ((st.q.map tx).length : Int) by rw [List.length_map]; exact Int.ofNat_lt.2 hI.pos)]
        have e := rdM hI.pos
        rw [hx0] at e
        rw [← e]
        rfl
      exact Ev.bind (f := fun _ (z : ByteArray × Int) => some (z.1, z.2, true)) hfar (Ev.now _)
end Go.Proofs.YtdgpkdgpmidaoaaDoor.Lem
namespace Go.Proofs.YtdgpkdgpmidaoaaDoor.Lem
open Go.RowKit Go.Proofs.YtdgpkdgpmidaoaaDoor.PK Go.Proofs.YtdgpkdgpmidaoaaDoorW.PrintWords Go.Proofs.YtdgpkdgpmidaoaaDoorW.PrintLast Go.Proofs.YtdgpkdgpmidaoaaDoorW.PrintMore Go.Proofs.YtdgpkdgpmidaoaaDoor.Ring Go.Proofs.YtdgpkdgpmidaoaaDoor.Bfs
set_option linter.unusedVariables false
set_option linter.unusedSimpArgs false

theorem ev_at {α : Type} {g : Nat → Option α} {r : α} (h : Ev g r) : ∃ K, ∀ k, K ≤ k → g k = some r := h
theorem drop_cons {α : Type} {l : List α} {i : Nat} (h : i < l.length) : l.drop i = l[i] :: l.drop (i + 1) := List.drop_eq_getElem_cons h
theorem and255 (x : Int) : 0 ≤ Go.bits .and .u64 x 255 ∧ Go.bits .and .u64 x 255 ≤ 255 := by
  have e : Go.bits .and .u64 x 255 = IntKind.u64.wrap (((BitVec.ofInt 64 x &&& BitVec.ofInt 64 255).toNat : Nat) : Int) := rfl
  have h : (BitVec.ofInt 64 x &&& BitVec.ofInt 64 255).toNat ≤ 255 := by
    rw [BitVec.toNat_and]
    exact Nat.and_le_right
  rw [e]
  generalize (BitVec.ofInt 64 x &&& BitVec.ofInt 64 255).toNat = m at h
  have hw : IntKind.u64.wrap ((m : Nat) : Int) = (m : Int) := by
    unfold IntKind.wrap
    simp [IntKind.signed, IntKind.bits]
    omega
  rw [hw]
  omega
/-- Bytes, as the law's rows give them. -/
def Byts (l : List Int) : Prop := ∀ x ∈ l, 0 ≤ x ∧ x ≤ 255
theorem byts_of {l : List Int} (h : ∀ x ∈ l, (Lit.int .u8 x).wf = true) : Byts l := by
  intro x hx
  have := h x hx
  simp [Lit.wf, IntKind.min, IntKind.max, IntKind.signed, IntKind.bits] at this
  omega
/-- Where the cursor stands. -/
def At (n : Nat) (p : Int) : Prop := 0 ≤ p ∧ p ≤ (n : Int)
theorem draw_next {l : List Int} (hl : Byts l) {n : Nat} (hn : n < 4000000000) {p q : Int} (hp : At n p) : ∃ v p' q', spec_l1Cur_next.f l p q = some (v, p', q') ∧ 0 ≤ v ∧ v ≤ 255 ∧ At (n + 1) p' := by
  obtain ⟨h1, h2⟩ := hp
  have hw : wrap64 (p + 1) = p + 1 := w64 (by omega) (by omega)
  have hat : At (n + 1) (wrap64 (p + 1)) := by rw [hw]; exact ⟨by omega, by omega⟩
  unfold spec_l1Cur_next.f
  by_cases c : p < (l.length : Int)
  · have hr : 0 ≤ rd l p ∧ rd l p ≤ 255 := by
      have hlt : p.toNat < l.length := by omega
      have e : rd l p = l[p.toNat] := by
        unfold rd
        rw [List.getD_eq_getElem?_getD, List.getElem?_eq_getElem hlt]
        rfl
      rw [e]
      exact hl _ (List.getElem_mem hlt)
    have hv : wrap64 (rd l p) = rd l p := w64 (by omega) (by omega)
    rw [if_pos c, if_pos h1]
    by_cases c2 : wrap64 (p + 1) ≤ (l.length : Int)
    · rw [if_pos c2]
      exact ⟨_, _, _, rfl, by rw [hv]; exact hr.1, by rw [hv]; exact hr.2, hat⟩
    · rw [if_neg c2]
      refine ⟨_, _, _, rfl, ?_, ?_, hat⟩
      · rw [w64 (by have := and255 (IntKind.u64.wrap (IntKind.u64.wrap (IntKind.u64.wrap (q * 6364136223846793005) + IntKind.u64.wrap (wrap64 (rd l p))) + 1442695040888963407) / 1099511627776); omega) (by have := and255 (IntKind.u64.wrap (IntKind.u64.wrap (IntKind.u64.wrap (q * 6364136223846793005) + IntKind.u64.wrap (wrap64 (rd l p))) + 1442695040888963407) / 1099511627776); omega)]
        exact (and255 _).1
      · rw [w64 (by have := and255 (IntKind.u64.wrap (IntKind.u64.wrap (IntKind.u64.wrap (q * 6364136223846793005) + IntKind.u64.wrap (wrap64 (rd l p))) + 1442695040888963407) / 1099511627776); omega) (by have := and255 (IntKind.u64.wrap (IntKind.u64.wrap (IntKind.u64.wrap (q * 6364136223846793005) + IntKind.u64.wrap (wrap64 (rd l p))) + 1442695040888963407) / 1099511627776); omega)]
        exact (and255 _).2
  · rw [if_neg c]
    by_cases c2 : wrap64 (p + 1) ≤ (l.length : Int)
    · rw [if_pos c2]
      exact ⟨_, _, _, rfl, by omega, by omega, hat⟩
    · rw [if_neg c2]
      have key : ∀ y : Int, 0 ≤ wrap64 (Go.bits .and .u64 y 255) ∧ wrap64 (Go.bits .and .u64 y 255) ≤ 255 := by
        intro y
        have := and255 y
        rw [w64 (by omega) (by omega)]
        exact this
      exact ⟨_, _, _, rfl, (key _).1, (key _).2, hat⟩
theorem draw_pick {l : List Int} (hl : Byts l) {n : Nat} (hn : n < 4000000000) {p q : Int} (hp : At n p) (m : Int) (h1 : 1 ≤ m) (h2 : m ≤ 200) : ∃ v p' q', spec_l1Cur_pick.f l p q m = some (v, p', q') ∧ 0 ≤ v ∧ v < m ∧ At (n + 1) p' := by
  unfold spec_l1Cur_pick.f
  by_cases c : m ≤ 1
  · rw [if_pos c]
    exact ⟨_, _, _, rfl, by omega, by omega, ⟨hp.1, by have := hp.2; omega⟩⟩
  · obtain ⟨v, p', q', e, v1, v2, ha⟩ := draw_next hl hn (q := q) hp
    rw [if_neg c, e, obind, if_neg (show ¬ m > 200 by omega), if_neg (show ¬ m = 0 by omega)]
    refine ⟨_, _, _, rfl, ?_, ?_, ha⟩
    · show 0 ≤ Int.tmod v m
      exact Int.tmod_nonneg _ v1
    · show Int.tmod v m < m
      exact Int.tmod_lt_of_pos _ (by omega)
theorem draw_one {l : List Int} (hl : Byts l) {n : Nat} (hn : n < 4000000000) {p q : Int} (hp : At n p) (m : Int) (h1 : 1 ≤ m) (h2 : m ≤ 200) : ∃ b p' q', spec_l1Cur_one.f l p q m = some (b, p', q') ∧ At (n + 1) p' := by
  obtain ⟨v, p', q', e, _, _, ha⟩ := draw_pick hl hn (q := q) hp m h1 h2
  unfold spec_l1Cur_one.f
  rw [e, obind]
  exact ⟨_, _, _, rfl, ha⟩
theorem draw_of {l : List Int} (hl : Byts l) {n : Nat} (hn : n < 4000000000) {p q : Int} (hp : At n p) (t : List ByteArray) (h1 : 1 ≤ t.length) (h2 : t.length ≤ 200) (B : Nat) (hB : ∀ x ∈ t, x.size ≤ B) : ∃ v p' q', spec_l1Cur_of.f l p q t = some (v, p', q') ∧ v.size ≤ B ∧ At (n + 1) p' := by
  obtain ⟨v, p', q', e, v1, v2, ha⟩ := draw_pick hl hn (q := q) hp (t.length : Int) (by omega) (by omega)
  unfold spec_l1Cur_of.f
  rw [e, obind, if_pos v1, if_pos v2]
  refine ⟨_, _, _, rfl, ?_, ha⟩
  have hlt : v.toNat < t.length := by omega
  have e : rdOf ByteArray.empty t v = t[v.toNat] := by
    unfold rdOf
    rw [List.getD_eq_getElem?_getD, List.getElem?_eq_getElem hlt]
    rfl
  show (rdOf ByteArray.empty t v).size ≤ B
  rw [e]
  exact hB _ (List.getElem_mem hlt)
/-- A text of at most 8 bytes, or of 20 or 21. -/
def Few8 (v : ByteArray) : Prop := v.size ≤ 21 ∧ (v.size ≤ 8 ∨ 20 ≤ v.size)
theorem draw_ofP {l : List Int} (hl : Byts l) {n : Nat} (hn : n < 4000000000) {p q : Int} (hp : At n p) (t : List ByteArray) (h1 : 1 ≤ t.length) (h2 : t.length ≤ 200) (B : ByteArray → Prop) (hB : ∀ x ∈ t, B x) : ∃ v p' q', spec_l1Cur_of.f l p q t = some (v, p', q') ∧ B v ∧ At (n + 1) p' := by
  obtain ⟨v, p', q', e, v1, v2, ha⟩ := draw_pick hl hn (q := q) hp (t.length : Int) (by omega) (by omega)
  unfold spec_l1Cur_of.f
  rw [e, obind, if_pos v1, if_pos v2]
  refine ⟨_, _, _, rfl, ?_, ha⟩
  have hlt : v.toNat < t.length := by omega
  have e : rdOf ByteArray.empty t v = t[v.toNat] := by
    unfold rdOf
    rw [List.getD_eq_getElem?_getD, List.getElem?_eq_getElem hlt]
    rfl
  show B (rdOf ByteArray.empty t v)
  rw [e]
  exact hB _ (List.getElem_mem hlt)
theorem At.up {n m : Nat} {p : Int} (h : At n p) (hm : n ≤ m) : At m p := ⟨h.1, by have := h.2; omega⟩
def bitT : List ByteArray := [(⟨#[48]⟩ : ByteArray), (⟨#[49]⟩ : ByteArray)]
theorem draw_bit {l : List Int} (hl : Byts l) {n : Nat} (hn : n < 4000000000) {p q : Int} (hp : At n p) : ∃ v p' q', spec_l1Cur_of.f l p q [(⟨#[48]⟩ : ByteArray), (⟨#[49]⟩ : ByteArray)] = some (v, p', q') ∧ v.size ≤ 1 ∧ At (n + 1) p' :=
  draw_of hl hn hp _ (by simp) (by simp) 1 (by intro x hx; simp only [List.mem_cons, List.not_mem_nil, or_false] at hx; rcases hx with rfl | rfl <;> exact Nat.le_refl _)
theorem sure_l0 {l : List Int} (hl : Byts l) : ∀ (d n : Nat) (x : ByteArray) (p q : Int), n + d < 1000000 → x.size + d ≤ 1000000 → At n p → ∃ v p' q', Ev (fun k => spec_l1Cur_sureState.l0 k x (d : Int) l p q) (v, p', q') ∧ v.size ≤ x.size + d ∧ At (n + d) p' := by
  intro d
  induction d with
  | zero =>
    intro n x p q hn hx hp
    refine ⟨x, p, q, Ev.step (f := fun _ => some (x, p, q)) (fun k => ?_) (Ev.now _), Nat.le_refl _, hp⟩
    simp only [spec_l1Cur_sureState.l0]
    rw [if_neg (by simp)]
  | succ d ih =>
    intro n x p q hn hx hp
    obtain ⟨v, p1, q1, e, hv, ha⟩ := draw_bit hl (by omega : n < 4000000000) (q := q) hp
    obtain ⟨v2, p2, q2, e2, hv2, ha2⟩ := ih (n + 1) (x ++ v) p1 q1 (by omega) (by rw [ByteArray.size_append]; omega) ha
    rw [ByteArray.size_append] at hv2
    refine ⟨v2, p2, q2, Ev.step (fun k => ?_) e2, by omega, ha2.up (by omega)⟩
    simp only [spec_l1Cur_sureState.l0]
    rw [if_pos (by omega), e, obind, if_pos (show x.size + v.size ≤ 9223372036854775807 by omega), w64 (by omega) (by omega), show ((d + 1 : Nat) : Int) - 1 = (d : Int) from by omega]
theorem draw_sure {l : List Int} (hl : Byts l) {n : Nat} (hn : n < 200000) {p q : Int} (hp : At n p) (m : Nat) (h1 : 1 ≤ m) (h2 : m ≤ 200) : ∃ v p' q', Ev (fun k => spec_l1Cur_sureState.f k l p q (m : Int)) (v, p', q') ∧ v.size ≤ m ∧ At (n + m + 1) p' := by
  obtain ⟨v, p', q', e, v1, v2, ha⟩ := draw_pick hl (by omega : n < 4000000000) (q := q) hp (m : Int) (by omega) (by omega)
  obtain ⟨v3, p3, q3, e3, hv3, ha3⟩ := sure_l0 hl (v.toNat + 1) (n + 1) (⟨#[]⟩ : ByteArray) p' q' (by omega) (by show 0 + _ ≤ _; omega) ha
  refine ⟨v3, p3, q3, Ev.congr (fun k => ?_) e3, Nat.le_trans hv3 (by show 0 + _ ≤ _; omega), ha3.up (by omega)⟩
  show spec_l1Cur_sureState.f k l p q (m : Int) = _
  unfold spec_l1Cur_sureState.f
  rw [e, obind]
  show spec_l1Cur_sureState.l0 k _ (wrap64 (1 + v)) l p' q' = _
  rw [w64 (by omega) (by omega), show 1 + v = ((v.toNat + 1 : Nat) : Int) from by omega]
theorem draw_state {l : List Int} (hl : Byts l) {n : Nat} (hn : n < 100000) {p q : Int} (hp : At n p) : ∃ v p' q', Ev (fun k => spec_l1Cur_state.f k l p q) (v, p', q') ∧ Few8 v ∧ At (n + 10) p' := by
  obtain ⟨b, p1, q1, e1, ha1⟩ := draw_one hl (by omega : n < 4000000000) (q := q) hp 12 (by decide) (by decide)
  cases b with
  | true =>
    obtain ⟨v, p2, q2, e2, hv, ha2⟩ := draw_ofP hl (by omega : n + 1 < 4000000000) (q := q1) ha1 [(⟨#[]⟩ : ByteArray), (⟨#[50]⟩ : ByteArray), (⟨#[48, 120]⟩ : ByteArray), (⟨#[49, 49, 49, 49, 49, 49, 49, 49, 49, 49, 49, 49, 49, 49, 49, 49, 49, 49, 49, 49, 49]⟩ : ByteArray), (⟨#[49, 49, 49, 49, 49, 49, 49, 49, 49, 49, 49, 49, 49, 49, 49, 49, 49, 49, 49, 49]⟩ : ByteArray), (⟨#[48, 48, 48, 48, 48, 48, 48, 48, 48, 48, 48, 48, 48, 48, 48, 48, 48, 48, 48, 49]⟩ : ByteArray)] (by simp) (by simp) Few8 (by
      intro x hx
      simp only [List.mem_cons, List.not_mem_nil, or_false] at hx
      rcases hx with rfl | rfl | rfl | rfl | rfl | rfl <;> (unfold Few8; decide))
    refine ⟨v, p2, q2, Ev.congr (fun k => ?_) (Ev.now _), hv, ha2.up (by omega)⟩
    unfold spec_l1Cur_state.f
    rw [e1, obind, if_pos rfl]
    show (spec_l1Cur_of.f l p1 q1 _).bind _ = _
    rw [e2, obind]
  | false =>
    obtain ⟨v, p2, q2, e2, hv, ha2⟩ := draw_sure hl (by omega : n + 1 < 200000) (q := q1) ha1 8 (by decide) (by decide)
    refine ⟨v, p2, q2, ?_, ⟨Nat.le_trans hv (by decide), .inl hv⟩, ha2.up (by omega)⟩
    unfold spec_l1Cur_state.f
    rw [e1]
    refine Ev.congr (f := fun k => (spec_l1Cur_sureState.f k l p1 q1 8).bind fun b_ => some (b_.1, b_.2.1, b_.2.2)) (fun k => by rw [obind, if_neg Bool.false_ne_true]) (Ev.bind e2 (Ev.now _))
theorem yHas_l0 (l : List Int) (hl : l.length ≤ 100000) (a : Int) : ∀ d i, i + d = l.length → Ev (fun k => laws_yHas.l0 k a l (l.length : Int) (i : Int)) (decide (a ∈ l.drop i)) := by
  intro d
  induction d with
  | zero =>
    intro i hi
    rw [List.drop_eq_nil_of_le (by omega)]
    refine Ev.step (f := fun _ => some (decide (a ∈ ([] : List Int)))) (fun k => ?_) (Ev.now _)
    simp only [laws_yHas.l0]
    rw [if_neg (by omega)]
    rfl
  | succ d ih =>
    intro i hi
    have hil : i < l.length := by omega
    have hil' : (i : Int) < (l.length : Int) := Int.ofNat_lt.2 hil
    rw [drop_cons hil]
    by_cases e : l[i] = a
    · refine Ev.step (f := fun _ => some (decide (a ∈ l[i] :: l.drop (i + 1)))) (fun k => ?_) (Ev.now _)
      simp only [laws_yHas.l0]
      rw [if_pos hil', if_pos (Int.natCast_nonneg _), if_pos hil', rd_get hil, if_pos e, e, decide_eq_true (List.mem_cons_self)]
    · have h2 := ih (i + 1) (by omega)
      have e2 : decide (a ∈ l[i] :: l.drop (i + 1)) = decide (a ∈ l.drop (i + 1)) := by
        apply decide_eq_decide.2
        rw [List.mem_cons]
        exact ⟨fun h => h.elim (fun h => absurd h.symm e) id, .inr⟩
      rw [e2]
      refine Ev.step (fun k => ?_) h2
      simp only [laws_yHas.l0]
      rw [if_pos hil', if_pos (Int.natCast_nonneg _), if_pos hil', rd_get hil, if_neg e, succ64 (by omega)]
theorem yHas (l : List Int) (hl : l.length ≤ 100000) (a : Int) : Ev (fun k => laws_yHas.f k l a) (decide (a ∈ l)) := yHas_l0 l hl a l.length 0 (Nat.zero_add _)
theorem ySame_l0 (l : List Int) (hl : l.length ≤ 1000000) : ∀ d i, i + d = l.length → Ev (fun k => laws_ySame.l0 k l l (l.length : Int) (i : Int)) true := by
  intro d
  induction d with
  | zero =>
    intro i hi
    refine Ev.step (f := fun _ => some true) (fun k => ?_) (Ev.now _)
    simp only [laws_ySame.l0]
    rw [if_neg (by omega)]
  | succ d ih =>
    intro i hi
    have hil' : (i : Int) < (l.length : Int) := Int.ofNat_lt.2 (by omega)
    refine Ev.step (fun k => ?_) (ih (i + 1) (by omega))
    simp only [laws_ySame.l0]
    rw [if_pos hil', if_pos (Int.natCast_nonneg _), if_pos hil', if_pos hil', if_pos trivial, succ64 (by omega)]
theorem ySame (l : List Int) (hl : l.length ≤ 1000000) : Ev (fun k => laws_ySame.f k l l) true := by
  unfold laws_ySame.f
  exact Ev.congr (fun k => if_pos rfl) (ySame_l0 l hl l.length 0 (Nat.zero_add _))
theorem all_l0 (t : ByteArray) (ht : t.size = 1) : ∀ (d : Nat) (x : ByteArray), x.size + d ≤ 1000000 → ∃ v, Ev (fun k => spec_riAll.l0 k (d : Int) t x) v ∧ v.size = x.size + d := by
  intro d
  induction d with
  | zero =>
    intro x hx
    refine ⟨x, Ev.step (f := fun _ => some x) (fun k => ?_) (Ev.now _), rfl⟩
    simp only [spec_riAll.l0]
    rw [if_neg (by simp)]
  | succ d ih =>
    intro x hx
    have hs : (x ++ t).size = x.size + 1 := by rw [ByteArray.size_append, ht]
    obtain ⟨v, e, hv⟩ := ih (x ++ t) (by rw [hs]; omega)
    refine ⟨v, Ev.step (fun k => ?_) e, by rw [hv, hs]; omega⟩
    simp only [spec_riAll.l0]
    rw [if_pos (by omega), if_pos (by rw [ht]; omega), w64 (by omega) (by omega), show ((d + 1 : Nat) : Int) - 1 = (d : Int) from by omega]
theorem all_f (t : ByteArray) (ht : t.size = 1) (d : Nat) (hd : d ≤ 1000) : ∃ v, Ev (fun k => spec_riAll.f k (d : Int) t) v ∧ v.size = d := by
  obtain ⟨v, e, hv⟩ := all_l0 t ht d (⟨#[]⟩ : ByteArray) (by show 0 + _ ≤ _; omega)
  exact ⟨v, e, hv.trans (Nat.zero_add d)⟩
theorem bar_l0 (m : Nat) (hm : m ≤ 10) : ∀ d i (acc : List ByteArray), i + d = m → acc.length = i → ∃ L, Ev (fun k => spec_BarKeys.l0 k (m : Int) acc (i : Int)) (L, true) ∧ L.length = m := by
  intro d
  induction d with
  | zero =>
    intro i acc hi ha
    obtain rfl : i = m := by omega
    refine ⟨acc, Ev.step (f := fun _ => some (acc, true)) (fun k => ?_) (Ev.now _), ha⟩
    simp only [spec_BarKeys.l0]
    rw [if_neg (Int.lt_irrefl _)]
  | succ d ih =>
    intro i acc hi ha
    have hil : (i : Int) < (m : Int) := Int.ofNat_lt.2 (by omega)
    have hw : wrap64 ((m : Int) - (i : Int)) = ((m - i : Nat) : Int) := by rw [w64 (by omega) (by omega)]; omega
    obtain ⟨v, e1, hv⟩ := all_f (⟨#[63]⟩ : ByteArray) rfl (m - i) (by omega)
    by_cases c : i = 0
    · subst c
      obtain ⟨L, e2, hL⟩ := ih 1 (acc ++ [v]) (by omega) (by rw [List.length_append, ha]; rfl)
      refine ⟨L, ev_num e1 e2 (fun k hk => ?_), hL⟩
      simp only [spec_BarKeys.l0]
      rw [if_pos hil, hw, hk, obind, if_neg (by decide), if_pos (by omega), succ64 (by omega)]
    · have hw2 : wrap64 ((i : Int) - 1) = ((i - 1 : Nat) : Int) := by rw [w64 (by omega) (by omega)]; omega
      obtain ⟨u, e0, hu⟩ := all_f (⟨#[48]⟩ : ByteArray) rfl (i - 1) (by omega)
      obtain ⟨L, e2, hL⟩ := ih (i + 1) (acc ++ [(u ++ (⟨#[49]⟩ : ByteArray)) ++ v]) (by omega) (by rw [List.length_append, ha]; rfl)
      obtain ⟨K1, g1⟩ := ev_at e1
      obtain ⟨K0, g0⟩ := ev_at e0
      obtain ⟨K2, g2⟩ := ev_at e2
      refine ⟨L, ⟨K0 + K1 + K2 + 1, fun n hn => ?_⟩, hL⟩
      obtain ⟨k, rfl⟩ : ∃ k, n = k + 1 := ⟨n - 1, by omega⟩
      have hs : (u ++ (⟨#[49]⟩ : ByteArray)).size = u.size + 1 := by rw [ByteArray.size_append]; rfl
      simp only [spec_BarKeys.l0]
      rw [if_pos hil, hw, g1 k (by omega), obind, if_pos (by omega), hw2, g0 k (by omega), obind, if_pos (by omega), if_pos (by rw [hs]; omega), if_pos (by omega), succ64 (by omega)]
      exact g2 k (by omega)
theorem bar_f (m : Nat) (h1 : 1 ≤ m) (hm : m ≤ 10) : ∃ L, Ev (fun k => spec_BarKeys.f k (m : Int)) (L, true) ∧ L.length = m := by
  obtain ⟨L, e, hL⟩ := bar_l0 m hm m 0 [] (Nat.zero_add _) rfl
  refine ⟨L, ?_, hL⟩
  unfold spec_BarKeys.f spec_keRings.f
  refine Ev.congr (fun k => ?_) e
  rw [l1In_eq, obind, obind, if_pos (by rw [decide_eq_true_eq]; omega)]
  rfl
theorem sureK_l1 {l : List Int} (hl : Byts l) (m : Nat) (hm : m ≤ 5) (many : Int) (h1 : 1 ≤ many) (h9 : many ≤ 200) (acc : List ByteArray) (ha : acc.length ≤ 100) (i : Nat) (hi : i ≤ 100) : ∀ d j n (x : ByteArray) (p q : Int), j + d = m → n + 2 * d < 1000000 → x.size + d ≤ 1000000 → At n p →
    ∃ x' p' q', At (n + 2 * d) p' ∧ ∀ R, Ev (fun k => spec_l1Cur_sureKeys.l0 k (m : Int) many (acc ++ [x']) ((i + 1 : Nat) : Int) l p' q') R → Ev (fun k => spec_l1Cur_sureKeys.l1 k (m : Int) many acc (i : Int) x (j : Int) l p q) R := by
  intro d
  induction d with
  | zero =>
    intro j n x p q hj hn hx hp
    refine ⟨x, p, q, hp, fun R h => Ev.step (fun k => ?_) h⟩
    simp only [spec_l1Cur_sureKeys.l1]
    rw [if_neg (fun h => by have := Int.ofNat_lt.1 h; omega), if_pos (by omega), succ64 (by omega)]
  | succ d ih =>
    intro j n x p q hj hn hx hp
    have hjl : (j : Int) < (m : Int) := Int.ofNat_lt.2 (by omega)
    have hs : ∀ y : ByteArray, y.size ≤ 1 → (x ++ y).size + d ≤ 1000000 := fun y hy => by rw [ByteArray.size_append]; omega
    by_cases c : j = i
    · obtain ⟨x', p', q', ha', K⟩ := ih (j + 1) n (x ++ (⟨#[63]⟩ : ByteArray)) p q (by omega) (by omega) (hs _ (Nat.le_refl 1)) hp
      refine ⟨x', p', q', ha'.up (by omega), fun R h => Ev.step (fun k => ?_) (K R h)⟩
      simp only [spec_l1Cur_sureKeys.l1]
      rw [if_pos hjl, if_pos (by rw [c]), if_pos (by omega), succ64 (by omega)]
    · have hc : ¬ ((j : Int) = (i : Int)) := fun h => c (Int.ofNat.inj h)
      obtain ⟨b, p1, q1, e1, ha1⟩ := draw_one hl (by omega : n < 4000000000) (q := q) hp many h1 h9
      cases b with
      | true =>
        obtain ⟨v, p2, q2, e2, hv, ha2⟩ := draw_bit hl (by omega : n + 1 < 4000000000) (q := q1) ha1
        obtain ⟨x', p', q', ha', K⟩ := ih (j + 1) (n + 1 + 1) (x ++ v) p2 q2 (by omega) (by omega) (hs _ hv) ha2
        refine ⟨x', p', q', ha'.up (by omega), fun R h => Ev.step (fun k => ?_) (K R h)⟩
        simp only [spec_l1Cur_sureKeys.l1]
        rw [if_pos hjl, if_neg hc, e1, obind, if_pos rfl]
        show ((spec_l1Cur_of.f l p1 q1 _).bind _) = _
        rw [e2, obind, if_pos (show x.size + v.size ≤ 9223372036854775807 by omega), succ64 (by omega)]
      | false =>
        obtain ⟨x', p', q', ha', K⟩ := ih (j + 1) (n + 1) (x ++ (⟨#[63]⟩ : ByteArray)) p1 q1 (by omega) (by omega) (hs _ (Nat.le_refl 1)) ha1
        refine ⟨x', p', q', ha'.up (by omega), fun R h => Ev.step (fun k => ?_) (K R h)⟩
        simp only [spec_l1Cur_sureKeys.l1]
        rw [if_pos hjl, if_neg hc, e1, obind, if_neg Bool.false_ne_true, if_pos (by omega), succ64 (by omega)]
theorem sureK_l0 {l : List Int} (hl : Byts l) (m : Nat) (hm : m ≤ 5) (many : Int) (h1 : 1 ≤ many) (h9 : many ≤ 200) : ∀ d i n (acc : List ByteArray) (p q : Int), i + d = m → acc.length = i → n + 10 * d < 1000000 → At n p →
    ∃ L p' q', Ev (fun k => spec_l1Cur_sureKeys.l0 k (m : Int) many acc (i : Int) l p q) (L, p', q') ∧ L.length = m ∧ At (n + 10 * d) p' := by
  intro d
  induction d with
  | zero =>
    intro i n acc p q hi ha hn hp
    obtain rfl : i = m := by omega
    refine ⟨acc, p, q, Ev.step (f := fun _ => some (acc, p, q)) (fun k => ?_) (Ev.now _), ha, hp⟩
    simp only [spec_l1Cur_sureKeys.l0]
    rw [if_neg (Int.lt_irrefl _)]
  | succ d ih =>
    intro i n acc p q hi ha hn hp
    have hil : (i : Int) < (m : Int) := Int.ofNat_lt.2 (by omega)
    obtain ⟨x', p1, q1, ha1, K⟩ := sureK_l1 hl m hm many h1 h9 acc (by omega) i (by omega) m 0 n (⟨#[]⟩ : ByteArray) p q (Nat.zero_add _) (by omega) (by show 0 + _ ≤ _; omega) hp
    obtain ⟨L, p', q', e, hL, ha'⟩ := ih (i + 1) (n + 10) (acc ++ [x']) p1 q1 (by omega) (by rw [List.length_append, ha]; rfl) (by omega) (ha1.up (by omega))
    refine ⟨L, p', q', Ev.step (fun k => ?_) (K _ e), hL, ha'.up (by omega)⟩
    simp only [spec_l1Cur_sureKeys.l0]
    rw [if_pos hil]
    rfl
theorem draw_sureK {l : List Int} (hl : Byts l) {n : Nat} (hn : n < 1000) {p q : Int} (hp : At n p) : ∃ L p' q', Ev (fun k => spec_l1Cur_sureKeys.f k l p q 5) (L, p', q') ∧ L.length ≤ 5 ∧ At (n + 60) p' := by
  obtain ⟨v, p1, q1, e1, v1, v2, ha1⟩ := draw_pick hl (by omega : n < 4000000000) (q := q) hp 5 (by decide) (by decide)
  obtain ⟨j, rfl⟩ := Int.eq_ofNat_of_zero_le v1
  have hj : j < 5 := Int.ofNat_lt.1 v2
  have hw : wrap64 (1 + (j : Int)) = ((j + 1 : Nat) : Int) := by rw [w64 (by omega) (by omega)]; omega
  obtain ⟨b, p2, q2, e2, ha2⟩ := draw_one hl (by omega : n + 1 < 4000000000) (q := q1) ha1 4 (by decide) (by decide)
  cases b with
  | true =>
    obtain ⟨L, e3, hL⟩ := bar_f (j + 1) (by omega) (by omega)
    refine ⟨L, p2, q2, ?_, by omega, ha2.up (by omega)⟩
    unfold spec_l1Cur_sureKeys.f
    refine Ev.congr (f := fun k => (spec_BarKeys.f k ((j + 1 : Nat) : Int)).bind fun bt131 => (some (bt131.1, p2, q2))) (fun k => ?_) (Ev.bind e3 (Ev.now _))
    rw [e1, obind]
    show ((spec_l1Cur_one.f l p1 q1 4).bind _) = _
    rw [e2, obind, if_pos rfl]
    show ((spec_BarKeys.f k (wrap64 (1 + (j : Int)))).bind _) = _
    rw [hw]
  | false =>
    obtain ⟨v, p3, q3, e3, w1, w2, ha3⟩ := draw_pick hl (by omega : n + 1 + 1 < 4000000000) (q := q2) ha2 3 (by decide) (by decide)
    have hw2 : wrap64 (2 + v) = 2 + v := w64 (by omega) (by omega)
    obtain ⟨L, p4, q4, e4, hL, ha4⟩ := sureK_l0 hl (j + 1) (by omega) (2 + v) (by omega) (by omega) (j + 1) 0 (n + 1 + 1 + 1) [] p3 q3 (Nat.zero_add _) rfl (by omega) ha3
    refine ⟨L, p4, q4, ?_, by omega, ha4.up (by omega)⟩
    unfold spec_l1Cur_sureKeys.f
    refine Ev.congr (fun k => ?_) e4
    rw [e1, obind]
    show ((spec_l1Cur_one.f l p1 q1 4).bind _) = _
    rw [e2, obind, if_neg Bool.false_ne_true]
    show ((spec_l1Cur_pick.f l p2 q2 3).bind _) = _
    rw [e3, obind]
    show spec_l1Cur_sureKeys.l0 k (wrap64 (1 + (j : Int))) (wrap64 (2 + v)) [] 0 l p3 q3 = _
    rw [hw, hw2]
    rfl
theorem draw_keys {l : List Int} (hl : Byts l) {n : Nat} (hn : n < 500) {p q : Int} (hp : At n p) : ∃ L p' q', Ev (fun k => spec_l1Cur_keys.f k l p q) (L, p', q') ∧ L.length ≤ 5 ∧ At (n + 70) p' := by
  obtain ⟨b, p1, q1, e1, ha1⟩ := draw_one hl (by omega : n < 4000000000) (q := q) hp 12 (by decide) (by decide)
  cases b with
  | true =>
    obtain ⟨v, p2, q2, e2, v1, v2, ha2⟩ := draw_pick hl (by omega : n + 1 < 4000000000) (q := q1) ha1 7 (by decide) (by decide)
    obtain ⟨j, rfl⟩ := Int.eq_ofNat_of_zero_le v1
    have hj : j < 7 := Int.ofNat_lt.1 v2
    have hY : ∀ Y : List (List ByteArray), Y.length = 7 → (∀ x ∈ Y, x.length ≤ 5) → (rd_L2 Y ((j : Nat) : Int)).length ≤ 5 := fun Y h7 h5 => by
      have hjY : j < Y.length := by omega
      have e : rd_L2 Y ((j : Nat) : Int) = Y[j] := by
        show Y.getD j [] = _
        rw [List.getD_eq_getElem?_getD, List.getElem?_eq_getElem hjY]
        rfl
      rw [e]
      exact h5 _ (List.getElem_mem hjY)
    refine ⟨_, p2, q2, Ev.congr (fun k => ?_) (Ev.now (_, p2, q2)), hY [[], [(⟨#[]⟩ : ByteArray)], [(⟨#[49]⟩ : ByteArray)], [(⟨#[63]⟩ : ByteArray), (⟨#[63]⟩ : ByteArray)], [(⟨#[63, 120]⟩ : ByteArray), (⟨#[63, 63]⟩ : ByteArray)], [(⟨#[63, 63]⟩ : ByteArray), (⟨#[63]⟩ : ByteArray)], [(⟨#[48, 63]⟩ : ByteArray), (⟨#[63, 63]⟩ : ByteArray)]] rfl (fun x hx => by
      simp only [List.mem_cons, List.not_mem_nil, or_false] at hx
      rcases hx with rfl | rfl | rfl | rfl | rfl | rfl | rfl <;> decide), ha2.up (by omega)⟩
    unfold spec_l1Cur_keys.f
    rw [e1, obind, if_pos rfl, obind]
    show ((spec_l1Cur_pick.f l p1 q1 7).bind _) = _
    rw [e2, obind]
    show (if 0 ≤ ((j : Nat) : Int) then _ else _) = _
    rw [if_pos (Int.natCast_nonneg _)]
    show (if ((j : Nat) : Int) < ((7 : Nat) : Int) then _ else _) = _
    rw [if_pos (Int.ofNat_lt.2 hj)]
  | false =>
    obtain ⟨L, p2, q2, e2, hL, ha2⟩ := draw_sureK hl (by omega : n + 1 < 1000) (q := q1) ha1
    refine ⟨L, p2, q2, ?_, hL, ha2.up (by omega)⟩
    unfold spec_l1Cur_keys.f
    rw [e1]
    exact Ev.congr (fun k => by rw [obind, if_neg Bool.false_ne_true]) (Ev.bind e2 (Ev.now _))
theorem keyed_l0 {l : List Int} (hl : Byts l) (m : Nat) (hm : m ≤ 100) : ∀ d i n (x : ByteArray) (p q : Int), i + d = m → n + d < 1000000 → x.size + d ≤ 1000000 → At n p → ∃ v p' q', Ev (fun k => spec_l1Cur_keyed.l0 k x (m : Int) (i : Int) l p q) (v, p', q') ∧ At (n + d) p' := by
  intro d
  induction d with
  | zero =>
    intro i n x p q hi hn hx hp
    obtain rfl : i = m := by omega
    refine ⟨x, p, q, Ev.step (f := fun _ => some (x, p, q)) (fun k => ?_) (Ev.now _), hp⟩
    simp only [spec_l1Cur_keyed.l0]
    rw [if_neg (Int.lt_irrefl _)]
  | succ d ih =>
    intro i n x p q hi hn hx hp
    obtain ⟨v, p1, q1, e, hv, ha⟩ := draw_bit hl (by omega : n < 4000000000) (q := q) hp
    obtain ⟨v2, p2, q2, e2, ha2⟩ := ih (i + 1) (n + 1) (x ++ v) p1 q1 (by omega) (by omega) (by rw [ByteArray.size_append]; omega) ha
    refine ⟨v2, p2, q2, Ev.step (fun k => ?_) e2, ha2.up (by omega)⟩
    simp only [spec_l1Cur_keyed.l0]
    rw [if_pos (Int.ofNat_lt.2 (by omega)), e, obind, if_pos (show x.size + v.size ≤ 9223372036854775807 by omega), succ64 (by omega)]
theorem draw_keyed {l : List Int} (hl : Byts l) {n : Nat} (hn : n < 500) {p q : Int} (hp : At n p) (L : List ByteArray) (hL : L.length ≤ 5) : ∃ v p' q', Ev (fun k => spec_l1Cur_keyed.f k l p q L) (v, p', q') ∧ At (n + 20) p' := by
  obtain ⟨b, p1, q1, e1, ha1⟩ := draw_one hl (by omega : n < 4000000000) (q := q) hp 14 (by decide) (by decide)
  cases b with
  | true =>
    obtain ⟨v, p2, q2, e2, _, ha2⟩ := draw_state hl (by omega : n + 1 < 100000) (q := q1) ha1
    refine ⟨v, p2, q2, ?_, ha2.up (by omega)⟩
    unfold spec_l1Cur_keyed.f
    rw [e1]
    exact Ev.congr (fun k => by rw [obind, if_pos rfl]) (Ev.bind e2 (Ev.now _))
  | false =>
    obtain ⟨v, p2, q2, e2, ha2⟩ := keyed_l0 hl L.length (by omega) L.length 0 (n + 1) (⟨#[]⟩ : ByteArray) p1 q1 (Nat.zero_add _) (by omega) (by show 0 + _ ≤ _; omega) ha1
    refine ⟨v, p2, q2, ?_, ha2.up (by omega)⟩
    unfold spec_l1Cur_keyed.f
    rw [e1]
    exact Ev.congr (fun k => by rw [obind, if_neg Bool.false_ne_true]; rfl) e2
theorem drawFirst {l : List Int} (hl : Byts l) : ∃ L a b, Ev (fun k => spec_DrawFirstKeyed.f k l) (L, a, b) ∧ L.length ≤ 5 := by
  obtain ⟨L, p1, q1, e1, hL, ha1⟩ := draw_keys hl (n := 0) (by omega) (p := 0) (q := 0) ⟨Int.le_refl _, Int.le_refl _⟩
  obtain ⟨a, p2, q2, e2, ha2⟩ := draw_keyed hl (by omega : 0 + 70 < 500) (q := q1) ha1 L hL
  obtain ⟨b, p3, q3, e3, ha3⟩ := draw_keyed hl (by omega : 0 + 70 + 20 < 500) (q := q2) ha2 L hL
  refine ⟨L, a, b, ?_, hL⟩
  unfold spec_DrawFirstKeyed.f
  refine Ev.bind (a := (L, a, b)) ?_ (Ev.now _)
  unfold spec_DrawFewestKeyed.f
  refine Ev.bind (a := (L, a, b, p3, q3)) ?_ (Ev.now _)
  unfold spec_DrawFewestKeyed.g
  exact Ev.bind e1 (Ev.bind e2 (Ev.bind e3 (Ev.now _)))
theorem drawMoves {l : List Int} (hl : Byts l) : ∃ L s, Ev (fun k => spec_DrawKeyedMoves.f k l) (L, s) ∧ L.length ≤ 5 := by
  obtain ⟨L, p1, q1, e1, hL, ha1⟩ := draw_keys hl (n := 0) (by omega) (p := 0) (q := 0) ⟨Int.le_refl _, Int.le_refl _⟩
  obtain ⟨a, p2, q2, e2, ha2⟩ := draw_keyed hl (by omega : 0 + 70 < 500) (q := q1) ha1 L hL
  refine ⟨L, a, ?_, hL⟩
  unfold spec_DrawKeyedMoves.f
  refine Ev.bind (a := (L, a, p2, q2)) ?_ (Ev.now _)
  unfold spec_DrawKeyedMoves.g
  exact Ev.bind e1 (Ev.bind e2 (Ev.now _))
theorem drawMove {l : List Int} (hl : Byts l) : ∃ L s x, Ev (fun k => spec_DrawMoveKeyed.f k l) (L, s, x) ∧ L.length ≤ 5 := by
  obtain ⟨L, p1, q1, e1, hL, ha1⟩ := draw_keys hl (n := 0) (by omega) (p := 0) (q := 0) ⟨Int.le_refl _, Int.le_refl _⟩
  obtain ⟨a, p2, q2, e2, ha2⟩ := draw_keyed hl (by omega : 0 + 70 < 500) (q := q1) ha1 L hL
  obtain ⟨v, p3, q3, e3, _, _, _⟩ := draw_pick hl (by omega : 0 + 70 + 20 < 4000000000) (q := q2) ha2 ((L.length : Int) + 2) (by omega) (by omega)
  refine ⟨L, a, wrap64 (v - 1), ?_, hL⟩
  unfold spec_DrawMoveKeyed.f
  refine Ev.bind (a := (L, a, wrap64 (v - 1))) ?_ (Ev.now _)
  unfold spec_DrawFitsKey.f
  refine Ev.bind (a := (L, a, wrap64 (v - 1), p3, q3)) ?_ (Ev.now _)
  unfold spec_DrawFitsKey.g
  refine Ev.bind e1 (Ev.bind e2 (Ev.congr (fun k => ?_) (Ev.now _)))
  show ((spec_l1Cur_pick.f l p2 q2 (wrap64 ((L.length : Int) + 2))).bind _) = _
  rw [w64 (by omega) (by omega), e3, obind]
end Go.Proofs.YtdgpkdgpmidaoaaDoor.Lem
namespace Go.Proofs.YtdgpkdgpmidaoaaDoor.Bfs
theorem Path.trans {α : Type} {step : α → List α} {a b c : α} {n m : Nat} (p : Path step a n b) (q : Path step b m c) : Path step a (n + m) c := by
  induction q with
  | nil => exact p
  | snoc _ hc ih => exact .snoc ih hc
end Go.Proofs.YtdgpkdgpmidaoaaDoor.Bfs
namespace Go.Proofs.YtdgpkdgpmidaoaaDoor.Lem
open Go.RowKit Go.Proofs.YtdgpkdgpmidaoaaDoor.PK Go.Proofs.YtdgpkdgpmidaoaaDoorW.PrintWords Go.Proofs.YtdgpkdgpmidaoaaDoorW.PrintLast Go.Proofs.YtdgpkdgpmidaoaaDoorW.PrintMore Go.Proofs.YtdgpkdgpmidaoaaDoor.Ring Go.Proofs.YtdgpkdgpmidaoaaDoor.Bfs
set_option linter.unusedVariables false
set_option linter.unusedSimpArgs false

theorem ev_num2 {α β γ : Type} {f : Nat → Option β} {e : Nat → Option γ} {a : β} {b : γ} {g h : Nat → Option α} {r : α} (hf : Ev f a) (hb : Ev e b) (hh : Ev h r) (he : ∀ k, f k = some a → e k = some b → g (k + 1) = h k) : Ev g r := by
  obtain ⟨K1, h1⟩ := hf
  obtain ⟨K2, h2⟩ := hb
  obtain ⟨K3, h3⟩ := hh
  refine ⟨max K1 (max K2 K3) + 1, fun n hn => ?_⟩
  obtain ⟨k, rfl⟩ : ∃ k, n = k + 1 := ⟨n - 1, by omega⟩
  rw [he k (h1 k (by omega)) (h2 k (by omega))]
  exact h3 k (by omega)
theorem as_tx (l : List ByteArray) : ∃ ks : List Stt, l = ks.map tx := ⟨l.map (fun b => b.data.toList), by
  rw [List.map_map]
  have : (tx ∘ fun b : ByteArray => b.data.toList) = id := by funext b; exact tx_self b
  rw [this, List.map_id]⟩
theorem ask_of {ks : List Stt} (hk : keysOk ks = true) {s : Stt} (hs : okN ks.length s) : askK ks s = true := by
  obtain ⟨⟨k1, k2⟩, _⟩ := keys_parts hk
  obtain ⟨h1, h2⟩ := hs
  unfold askK stK isSt
  rw [hk, h2, decide_eq_true h1, decide_eq_true (show 1 ≤ s.length by omega), decide_eq_true (show s.length ≤ 20 by omega)]
  rfl
theorem ask_two {ks : List Stt} {s t : Stt} (h : (askK ks s && askK ks t) = true) : keysOk ks = true ∧ okN ks.length s ∧ okN ks.length t := by
  rw [Bool.and_eq_true] at h
  exact ⟨(ask_parts h.1).1, (ask_parts h.1).2, (ask_parts h.2).2⟩
theorem q_le {ks : List Stt} (hk : keysOk ks = true) {a b : Stt} (ha : okN ks.length a) (hb : okN ks.length b) {n : Nat} (h : (foundK ks b).far a = some n) : (foundK ks a).q.length ≤ (foundK ks b).q.length := by
  obtain ⟨ia, ga⟩ := found_good (setupK hk) ha
  obtain ⟨ib, gb⟩ := found_good (setupK hk) hb
  have ia : Inv (stepK ks) a (foundK ks a) (foundK ks a).q.length := ia
  have ga : GoodS (okN ks.length) (foundK ks a) := ga
  have ib : Inv (stepK ks) b (foundK ks b) (foundK ks b).q.length := ib
  have gb : GoodS (okN ks.length) (foundK ks b) := gb
  have hm : ((foundK ks a).q.map num).Nodup := by
    unfold List.Nodup
    rw [List.pairwise_map]
    exact List.Pairwise.imp_of_mem (fun hx hy hne e => hne (numN_inj (ga.ok _ hx) (ga.ok _ hy) e)) ia.nodup
  have e := nodup_le _ ((foundK ks b).q.map num) hm (fun x hx => by
    obtain ⟨t, ht, rfl⟩ := List.mem_map.1 hx
    obtain ⟨v, hv⟩ := Option.isSome_iff_exists.1 ((ia.iff t).2 ht)
    obtain ⟨w, hw, _⟩ := ib.final.least t (n + v) ((ib.path a n h).trans (ia.path t v hv))
    exact List.mem_map_of_mem ((ib.iff t).1 (by rw [hw]; rfl)))
  rwa [List.length_map, List.length_map] at e
theorem q_same {ks : List Stt} (hk : keysOk ks = true) {a b : Stt} (ha : okN ks.length a) (hb : okN ks.length b) {n : Nat} (h : (foundK ks b).far a = some n) : (foundK ks a).q.length = (foundK ks b).q.length :=
  Nat.le_antisymm (q_le hk ha hb h) (q_le hk hb ha (by rw [← found_sym hk ha hb]; exact h))
theorem flip_ne {n : Nat} {s : Stt} (hs : okN n s) {k : Nat} (hk : k < n) : flipAt s k ≠ s := by
  intro e
  have hl : k < s.length := by rw [hs.1]; exact hk
  have h1 := flipAt_get s k k
  rw [if_pos rfl, e, List.getElem?_eq_getElem hl, Option.map_some] at h1
  exact flipC_neK _ (all_get.1 hs.2 k _ (List.getElem?_eq_getElem hl)) (Option.some.inj h1).symm
/-- Nothing but the state itself is reached. -/
def Alone (ks : List Stt) (s : Stt) : Prop := ∀ x ∈ (foundK ks s).q, x = s
theorem alone_path {ks : List Stt} {s : Stt} (h : mvK ks s ks.length = []) {n : Nat} {x : Stt} (p : Path (stepK ks) s n x) : x = s := by
  induction p with
  | nil => rfl
  | @snoc n b c _ hc ih =>
    subst ih
    unfold stepK at hc
    rw [h] at hc
    cases hc
theorem alone_moves {ks : List Stt} (hk : keysOk ks = true) {s : Stt} (hs : okN ks.length s) : Alone ks s ↔ mvK ks s ks.length = [] := by
  have I : Inv (stepK ks) s (foundK ks s) (foundK ks s).q.length := (found_good (setupK hk) hs).1
  constructor
  · intro h
    cases e : mvK ks s ks.length with
    | nil => rfl
    | cons k l =>
      exfalso
      have hm : k ∈ mvK ks s ks.length := by rw [e]; exact List.mem_cons_self
      have hst : flipAt s k ∈ stepK ks s := List.mem_map_of_mem hm
      obtain ⟨v, hv, _⟩ := I.final.least (flipAt s k) 1 (.snoc .nil hst)
      exact flip_ne hs (mvK_lt hm).1 (h _ ((I.iff _).1 (by rw [hv]; rfl)))
  · intro h x hx
    obtain ⟨v, hv⟩ := Option.isSome_iff_exists.1 ((I.iff x).2 hx)
    exact alone_path h (I.path x v hv)
theorem alone_len {ks : List Stt} (hk : keysOk ks = true) {s : Stt} (hs : okN ks.length s) : Alone ks s ↔ (foundK ks s).q.length = 1 := by
  have I : Inv (stepK ks) s (foundK ks s) (foundK ks s).q.length := (found_good (setupK hk) hs).1
  have hsq : s ∈ (foundK ks s).q := (I.iff s).1 (by rw [I.zero]; rfl)
  have hn := I.nodup
  unfold Alone
  generalize (foundK ks s).q = q at hsq hn ⊢
  constructor
  · intro h
    match q, hsq, hn, h with
    | [y], _, _, _ => rfl
    | y :: z :: l, _, hn, h =>
      exfalso
      have h1 := h y List.mem_cons_self
      have h2 := h z (List.mem_cons_of_mem _ List.mem_cons_self)
      rw [h1, h2] at hn
      exact (List.nodup_cons.1 hn).1 List.mem_cons_self
  · intro h x hx
    obtain ⟨y, rfl⟩ := List.length_eq_one_iff.1 h
    rw [List.mem_singleton] at hsq hx
    rw [hx, hsq]
theorem alone_far {ks : List Stt} (hk : keysOk ks = true) {s : Stt} (hs : okN ks.length s) {c : Stt} {m : Nat} (hc : (foundK ks s).far c = some m) (hm : ∀ x v, (foundK ks s).far x = some v → v ≤ m) : Alone ks s ↔ m = 0 := by
  have I : Inv (stepK ks) s (foundK ks s) (foundK ks s).q.length := (found_good (setupK hk) hs).1
  constructor
  · intro h
    have e := h c ((I.iff c).1 (by rw [hc]; rfl))
    rw [e, I.zero] at hc
    exact (Option.some.inj hc).symm
  · intro h x hx
    obtain ⟨v, hv⟩ := Option.isSome_iff_exists.1 ((I.iff x).2 hx)
    have hv0 := hm x v hv
    obtain rfl : v = 0 := by omega
    have p := I.path x 0 hv
    cases p
    rfl
/-! ### The ways -/
def waysV (ks : List Stt) (s t : Stt) : Int × Bool := if (askK ks s && askK ks t) = true then ((foundK ks s).ways t, true) else (0, false)
theorem ways_both (ks : List Stt) (s t : Stt) (hn : ks.length ≤ 5) : Ev (fun k => spec_CountKeyedWays.f k (ks.map tx) (tx s) (tx t)) (waysV ks s t) ∧ Ev (fun k => impl_CountKeyedWays.f k (ks.map tx) (tx s) (tx t)) (waysV ks s t) := by
  unfold waysV
  refine ⟨?_, ?_⟩
  · unfold spec_CountKeyedWays.f
    refine Ev.bind (keTwo ks s t (by omega)) ?_
    cases ha : (askK ks s && askK ks t) with
    | false => exact Ev.congr (fun k => if_neg (by simp)) (Ev.now _)
    | true =>
      rw [if_pos rfl]
      obtain ⟨hk, hs, ht⟩ := ask_two ha
      obtain ⟨F, W, hF, hW, h⟩ := keFarW hk ht
      rw [foundX_K hk hn ht] at hW
      have hnt : ((num s : Nat) : Int) < (W.length : Int) := by rw [hW.1]; exact Int.ofNat_lt.2 (numN_lt hs)
      have hrW : rd W ((num s : Nat) : Int) = (foundK ks s).ways t := (hW.2 s hs).trans (waysK_sym hk hn hs ht)
      refine Ev.congr (fun k => if_pos rfl) (Ev.bind h (Ev.bind (riNum (keys_parts hk).1.2 hs) ?_))
      exact Ev.congr (fun k => by rw [if_pos (Int.natCast_nonneg _), if_pos hnt, hrW]) (Ev.now _)
  · unfold impl_CountKeyedWays.f
    refine Ev.bind (keyed_two ks s t (by omega)) ?_
    cases ha : (askK ks s && askK ks t) with
    | false => exact Ev.congr (fun k => if_neg (by simp)) (Ev.now _)
    | true =>
      rw [if_pos rfl]
      obtain ⟨hk, hs, ht⟩ := ask_two ha
      have hn10 := (keys_parts hk).1.2
      refine Ev.congr (fun k => by rw [if_pos rfl, if_pos ⟨ok_smallK hn10 hs, ok_smallK hn10 ht⟩]) (Ev.bind (f := fun _ (q : List ByteArray × (ByteArray → Option Int) × (ByteArray → Option Int)) => some ((q.2.2 (tx t)).getD 0, true)) (search_runK hk s hs) (Ev.congr (fun k => ?_) (Ev.now _)))
      show some ((gB (foundK ks s) (tx t)).getD 0, true) = _
      rw [gB_tx]
      by_cases c : ((foundK ks s).far t).isSome = true
      · rw [if_pos c]; rfl
      · rw [if_neg c, (waysK hk hn hs).2 (by
          cases e : (foundK ks s).far t with
          | none => rfl
          | some v => rw [e] at c; exact absurd rfl c)]
        rfl
/-! ### A move, taken back -/
theorem move_same (ks : List Stt) (t : Stt) (x : Int) : (moveV ks t x).2 = ((fitsR ks t x).2 && (fitsR ks t x).1) := by
  unfold moveV fitsR
  by_cases c : askK ks t = true ∧ 0 ≤ x ∧ x < (ks.length : Int)
  · rw [if_pos c]
    by_cases f : fits (ks.getD x.toNat []) t = true
    · rw [if_pos ⟨c.1, c.2.1, c.2.2, f⟩, f]
      rfl
    · rw [if_neg (fun h => f h.2.2.2), Bool.eq_false_iff.2 f]
      rfl
  · rw [if_neg c, if_neg (fun h => c ⟨h.1, h.2.1, h.2.2.1⟩)]
    rfl
theorem tail_move (ks : List Stt) (t : Stt) (x : Int) (hn : ks.length ≤ 1048576) : Ev (fun k => if (moveV ks t x).2 = true then ((impl_MoveKeyed.f k (ks.map tx) (moveV ks t x).1 x).bind fun bt457 => (if bt457.2 = true then (some (bt457.1.toList == (tx t).toList)) else (none))) else (some true)) true := by
  by_cases c : askK ks t = true ∧ 0 ≤ x ∧ x < (ks.length : Int) ∧ fits (ks.getD x.toNat []) t = true
  · have hv : moveV ks t x = (tx (flipAt t x.toNat), true) := if_pos c
    obtain ⟨hk, ht⟩ := ask_parts c.1
    have hxl : x.toNat < ks.length := by have := c.2.2.1; have := c.2.1; omega
    have hv2 : moveV ks (flipAt t x.toNat) x = (tx t, true) := by
      unfold moveV
      rw [if_pos ⟨ask_of hk (okN_flip ht _), c.2.1, c.2.2.1, fits_flip hk hxl c.2.2.2⟩, flipAt_flipAt ht.2]
    have h := (move_both ks (flipAt t x.toNat) x hn).2
    rw [hv2] at h
    rw [hv]
    exact Ev.congr (fun k => if_pos rfl) (Ev.bind h (Ev.congr (fun k => by rw [if_pos rfl, beq_self_eq_true]) (Ev.now _)))
  · have hv : moveV ks t x = (⟨#[]⟩, false) := if_neg c
    rw [hv]
    exact Ev.congr (fun k => if_neg Bool.false_ne_true) (Ev.now _)
/-! ### The law, from behind -/
theorem ints_mem {l : List Nat} {i : Nat} : ((i : Int) ∈ ints l) ↔ i ∈ l := by
  unfold ints
  rw [List.mem_map]
  constructor
  · rintro ⟨j, hj, e⟩
    rwa [← Int.ofNat.inj e]
  · intro h
    exact ⟨i, h, rfl⟩
section
variable (ks : List Stt) (s : Stt) (os : List Stt) (t : Stt) (x : Int)
theorem lead_l1 (hk : keysOk ks = true) (hs : okN ks.length s) (ho : os.length ≤ 1048576) : ∀ d i, i + d = ks.length → Ev (fun k => laws_FnKeysLead.l1 k (ks.map tx) (tx s) (ints (mvK ks s ks.length)) (os.map tx) (tx t) x (moveV os t x).1 (moveV os t x).2 (ks.length : Int) (i : Int)) true := by
  obtain ⟨⟨k1, k2⟩, _⟩ := keys_parts hk
  have hml := mvK_len ks s ks.length
  intro d
  induction d with
  | zero =>
    intro i hi
    obtain rfl : i = ks.length := by omega
    refine Ev.step (fun k => ?_) (tail_move os t x ho)
    simp only [laws_FnKeysLead.l1]
    rw [if_neg (Int.lt_irrefl _)]
  | succ d ih =>
    intro i hi
    have hil : (i : Int) < (ks.length : Int) := Int.ofNat_lt.2 (by omega)
    have h1 := (fits_both ks s (i : Int) (by omega)).2
    have hf : fitsR ks s (i : Int) = (fits (ks.getD i []) s, true) := if_pos ⟨ask_of hk hs, Int.natCast_nonneg _, hil⟩
    rw [hf] at h1
    have h2 := yHas (ints (mvK ks s ks.length)) (by rw [ints_len]; omega) (i : Int)
    have e : decide ((i : Int) ∈ ints (mvK ks s ks.length)) = fits (ks.getD i []) s := by
      rw [Bool.eq_iff_iff, decide_eq_true_eq, ints_mem]
      unfold mvK
      rw [List.mem_filter, List.mem_range]
      exact ⟨fun h => h.2, fun h => ⟨by omega, h⟩⟩
    rw [e] at h2
    obtain ⟨K1, g1⟩ := ev_at h1
    obtain ⟨K2, g2⟩ := ev_at h2
    obtain ⟨K3, g3⟩ := ev_at (ih (i + 1) (by omega))
    refine ⟨K1 + K2 + K3 + 1, fun n hn => ?_⟩
    obtain ⟨k, rfl⟩ : ∃ k, n = k + 1 := ⟨n - 1, by omega⟩
    simp only [laws_FnKeysLead.l1]
    rw [if_pos hil, g1 k (by omega), obind, if_pos rfl, g2 k (by omega), obind, if_neg (by rw [bne_self_eq_false]; exact Bool.false_ne_true), succ64 (by omega)]
    exact g3 k (by omega)
theorem lead_j3 {R : ByteArray × Int × Bool} (hn : ks.length ≤ 1048576) (ho : os.length ≤ 1048576) (hR : FarP ks s R) : Ev (fun k => laws_FnKeysLead.j3 k (ks.map tx) (tx s) (movesR ks s).1 (movesR ks s).2 (cntV ks s).1 R.1 R.2.1 (os.map tx) (tx t) x (moveV os t x).1 (moveV os t x).2 false) true := by
  rcases hR with ⟨ha, rfl⟩ | ⟨ha, c, m, hoc, hc, hm, rfl⟩
  · have e : (movesR ks s).2 = false := by unfold movesR; rw [if_neg (by rw [ha]; simp)]
    rw [e]
    refine Ev.step (fun k => ?_) (tail_move os t x ho)
    simp only [laws_FnKeysLead.j3]
    rw [if_neg Bool.false_ne_true, if_neg Bool.false_ne_true]
  · obtain ⟨hk, hs⟩ := ask_parts ha
    have e1 : movesR ks s = (ints (mvK ks s ks.length), true) := if_pos ha
    have e2 : cntV ks s = (((foundK ks s).q.length : Int), true) := if_pos ha
    have h1 := (few_both ks s c hn).2
    have e3 : fewV ks s c = ((m : Int), true) := by
      unfold fewV
      rw [if_pos (by rw [ha, ask_of hk hoc]; rfl), hc]
      rfl
    rw [e3] at h1
    have G : GoodS (okN ks.length) (foundK ks s) := (found_good (setupK hk) hs).2
    have hb := G.bnd c m hc
    have a1 := alone_len hk hs
    have a2 := alone_moves hk hs
    have a3 := alone_far hk hs hc hm
    have hl := lead_l1 ks s os t x hk hs ho ks.length 0 (Nat.zero_add _)
    rw [e1, e2]
    have q1 : ((((foundK ks s).q.length : Int) == 1) != (((ints (mvK ks s ks.length)).length : Int) == 0)) = false := by
      rw [bne_eq_false_iff_eq, Bool.eq_iff_iff, beq_iff_eq, beq_iff_eq, ints_len]
      have h3 : mvK ks s ks.length = [] ↔ (mvK ks s ks.length).length = 0 := List.length_eq_zero_iff.symm
      have h4 := (a1.symm.trans a2).trans h3
      omega
    have q2 : (((m : Int) == 0) != (((foundK ks s).q.length : Int) == 1)) = false := by
      rw [bne_eq_false_iff_eq, Bool.eq_iff_iff, beq_iff_eq, beq_iff_eq]
      have h4 := a1.symm.trans a3
      omega
    have q3 : decide ((m : Int) ≥ ((foundK ks s).q.length : Int)) = false := decide_eq_false (by omega)
    have h4 : Ev (fun k => laws_FnKeysLead.j4 k (ks.map tx) (tx s) (ints (mvK ks s ks.length)) (os.map tx) (tx t) x (moveV os t x).1 (moveV os t x).2 false) true := by
      refine Ev.step (fun k => ?_) hl
      simp only [laws_FnKeysLead.j4]
      rw [if_neg Bool.false_ne_true, List.length_map]
      rfl
    refine ev_num2 h1 h4 h4 (fun k g1 g2 => ?_)
    simp only [laws_FnKeysLead.j3]
    rw [if_neg Bool.false_ne_true, if_pos trivial, g1, obind, if_pos rfl, if_pos rfl, q1, q2, q3, if_neg Bool.false_ne_true, if_neg Bool.false_ne_true]
end
theorem far_ok {ks : List Stt} {s : Stt} {R : ByteArray × Int × Bool} (h : FarP ks s R) : R.2.2 = askK ks s := by
  rcases h with ⟨ha, rfl⟩ | ⟨ha, c, m, _, _, _, rfl⟩ <;> rw [ha]
theorem moves_ok (ks : List Stt) (s : Stt) : (movesR ks s).2 = askK ks s := by
  unfold movesR
  cases askK ks s <;> rfl
theorem cnt_ok (ks : List Stt) (s : Stt) : (cntV ks s).2 = askK ks s := by
  unfold cntV
  cases askK ks s <;> rfl
theorem lead_j2 {z : List Int} (hz : Byts z) : Ev (fun k => laws_FnKeysLead.j2 k z) true := by
  obtain ⟨L, sb, e1, hL⟩ := drawMoves hz
  obtain ⟨M, tb, x, e2, hM⟩ := drawMove hz
  obtain ⟨ks, rfl⟩ := as_tx L
  obtain ⟨os, rfl⟩ := as_tx M
  obtain ⟨s, rfl⟩ : ∃ s, sb = tx s := ⟨sb.data.toList, (tx_self sb).symm⟩
  obtain ⟨t, rfl⟩ : ∃ t, tb = tx t := ⟨tb.data.toList, (tx_self tb).symm⟩
  rw [List.length_map] at hL hM
  have hn : ks.length ≤ 1048576 := by omega
  have ho : os.length ≤ 1048576 := by omega
  obtain ⟨R, hR, f1, f2⟩ := far_both ks s hn
  obtain ⟨c1, c2⟩ := count_both ks s hn
  obtain ⟨v1, v2⟩ := move_both os t x ho
  obtain ⟨i1, i2⟩ := fits_both os t x ho
  have hml := movesR_len ks s
  obtain ⟨K1, g1⟩ := ev_at e1
  obtain ⟨K2, g2⟩ := ev_at (impl_moves ks s hn)
  obtain ⟨K3, g3⟩ := ev_at (spec_moves ks s hn)
  obtain ⟨K4, g4⟩ := ev_at c2
  obtain ⟨K5, g5⟩ := ev_at c1
  obtain ⟨K6, g6⟩ := ev_at f2
  obtain ⟨K7, g7⟩ := ev_at f1
  obtain ⟨K8, g8⟩ := ev_at e2
  obtain ⟨K9, g9⟩ := ev_at v2
  obtain ⟨K10, g10⟩ := ev_at v1
  obtain ⟨K11, g11⟩ := ev_at i2
  obtain ⟨K12, g12⟩ := ev_at i1
  obtain ⟨K13, g13⟩ := ev_at (ySame (movesR ks s).1 (by omega))
  obtain ⟨K14, g14⟩ := ev_at (areKeys ks hn)
  obtain ⟨K15, g15⟩ := ev_at (keGood ks hn)
  obtain ⟨K16, g16⟩ := ev_at (lead_j3 ks s os t x hn ho hR)
  have hfo := far_ok hR
  have hmo := moves_ok ks s
  have hco := cnt_ok ks s
  have hms := move_same os t x
  have hak : askK ks s = true → keysOk ks = true := fun h => (ask_parts h).1
  have hne : ∀ y : Bool, ¬ ((y != y) = true) := fun y => by rw [bne_self_eq_false]; exact Bool.false_ne_true
  generalize movesR ks s = A at *
  generalize cntV ks s = B at *
  generalize moveV os t x = C at *
  generalize fitsR os t x = D at *
  generalize askK ks s = five at *
  refine ⟨K1 + K2 + K3 + K4 + K5 + K6 + K7 + K8 + K9 + K10 + K11 + K12 + K13 + K14 + K15 + K16 + 1, fun n hn' => ?_⟩
  obtain ⟨k, rfl⟩ : ∃ k, n = k + 1 := ⟨n - 1, by omega⟩
  have g15' : spec_AreKeys.f k (ks.map tx) = some (keysOk ks) := by
    unfold spec_AreKeys.f
    rw [g15 k (by omega), obind]
  have g16' := g16 k (by omega)
  have key : (if (keysOk ks != keysOk ks) = true then (none : Option Bool) else (if A.2 = true then ((impl_AreKeys.f k (ks.map tx)).bind fun t451 => (laws_FnKeysLead.j3 k (ks.map tx) (tx s) A.1 A.2 B.1 R.1 R.2.1 (os.map tx) (tx t) x C.1 C.2 (!t451))) else (laws_FnKeysLead.j3 k (ks.map tx) (tx s) A.1 A.2 B.1 R.1 R.2.1 (os.map tx) (tx t) x C.1 C.2 false))) = some true := by
    rw [if_neg (hne _)]
    by_cases c : A.2 = true
    · rw [if_pos c, g14 k (by omega), obind, hak (by rw [← hmo]; exact c)]
      exact g16'
    · rw [if_neg c]
      exact g16'
  simp only [laws_FnKeysLead.j2]
  rw [g1 k (by omega), obind]
  show ((impl_KeyedMoves.f k (ks.map tx) (tx s)).bind _) = _
  rw [g2 k (by omega), obind]
  show ((spec_KeyedMoves.f k (ks.map tx) (tx s)).bind _) = _
  rw [g3 k (by omega), obind]
  show ((impl_CountReachedBy.f k (ks.map tx) (tx s)).bind _) = _
  rw [g4 k (by omega), obind]
  show ((spec_CountReachedBy.f k (ks.map tx) (tx s)).bind _) = _
  rw [g5 k (by omega), obind]
  show ((impl_FarthestByKeys.f k (ks.map tx) (tx s)).bind _) = _
  rw [g6 k (by omega), obind]
  show ((spec_FarthestByKeys.f k (ks.map tx) (tx s)).bind _) = _
  rw [g7 k (by omega), obind, g8 k (by omega), obind]
  show ((impl_MoveKeyed.f k (os.map tx) (tx t) x).bind _) = _
  rw [g9 k (by omega), obind]
  show ((spec_MoveKeyed.f k (os.map tx) (tx t) x).bind _) = _
  rw [g10 k (by omega), obind]
  show ((impl_FitsKey.f k (os.map tx) (tx t) x).bind _) = _
  rw [g11 k (by omega), obind]
  show ((spec_FitsKey.f k (os.map tx) (tx t) x).bind _) = _
  rw [g12 k (by omega), obind, if_neg (hne _), g13 k (by omega), obind, if_pos rfl, if_neg (hne _), if_pos rfl, if_neg (hne _), if_pos rfl, if_pos rfl,
    if_neg (by rw [hco, hmo]; exact hne _), if_neg (by rw [hfo, hmo]; exact hne _), if_neg (hne _), if_pos rfl, if_neg (hne _), if_neg (hne _)]
  by_cases c : D.2 = true
  · rw [if_pos c, if_neg (by rw [hms, c, Bool.true_and]; exact hne _), g14 k (by omega), obind]
    show ((spec_AreKeys.f k (ks.map tx)).bind _) = _
    rw [g15', obind]
    rw [g14 k (by omega)] at key
    exact key
  · rw [if_neg c, if_neg (by rw [hms, Bool.eq_false_iff.2 c, Bool.false_and]; exact hne _), g14 k (by omega), obind]
    show ((spec_AreKeys.f k (ks.map tx)).bind _) = _
    rw [g15', obind]
    rw [g14 k (by omega)] at key
    exact key
section
variable {z : List Int} {ks : List Stt} {a b : Stt}
theorem lead_l0 (hz : Byts z) (hk : keysOk ks = true) (ha : okN ks.length a) (hb : okN ks.length b) (ms : List Nat) (hfar : (foundK ks b).far a = some ms.length) : ∀ (l : List Nat) (now : Stt), LeadsK ks b now l → okN ks.length now → ∀ i, i + l.length = ms.length → ms.drop i = l →
    Ev (fun k => laws_FnKeysLead.l0 k z (ks.map tx) (tx a) (tx b) (ints ms) (ms.length : Int) (tx now) (ints ms) (ms.length : Int) (i : Int)) true := by
  obtain ⟨⟨k1, k2⟩, _⟩ := keys_parts hk
  have hn : ks.length ≤ 1048576 := by omega
  have G : GoodS (okN ks.length) (foundK ks b) := (found_good (setupK hk) hb).2
  have I : Inv (stepK ks) b (foundK ks b) (foundK ks b).q.length := (found_good (setupK hk) hb).1
  have hlt := G.bnd a ms.length hfar
  have hle := G.len (setupK hk) I.nodup
  have hpw := pow10 k2
  intro l now p
  induction p with
  | nil =>
    intro _ i hi hd
    rw [List.length_nil, Nat.add_zero] at hi
    have h1 := (few_both ks b a hn).2
    have e1 : fewV ks b a = ((ms.length : Int), true) := by
      unfold fewV
      rw [if_pos (by rw [ask_of hk ha, ask_of hk hb]; rfl), hfar]
      rfl
    rw [e1] at h1
    have h2 := (count_both ks a hn).2
    have e2 : cntV ks a = (((foundK ks b).q.length : Int), true) := by
      unfold cntV
      rw [if_pos (ask_of hk ha), q_same hk ha hb hfar]
    rw [e2] at h2
    have h3 := (count_both ks b hn).2
    have e3 : cntV ks b = (((foundK ks b).q.length : Int), true) := if_pos (ask_of hk hb)
    rw [e3] at h3
    obtain ⟨K1, g1⟩ := ev_at h1
    obtain ⟨K2, g2⟩ := ev_at h2
    obtain ⟨K3, g3⟩ := ev_at h3
    obtain ⟨K4, g4⟩ := ev_at (lead_j2 hz)
    refine ⟨K1 + K2 + K3 + K4 + 1, fun n hn' => ?_⟩
    obtain ⟨k, rfl⟩ : ∃ k, n = k + 1 := ⟨n - 1, by omega⟩
    simp only [laws_FnKeysLead.l0]
    rw [if_neg (by rw [hi]; exact Int.lt_irrefl _), g1 k (by omega), obind, g2 k (by omega), obind, g3 k (by omega), obind, if_pos trivial, ints_len, if_pos rfl, if_pos rfl, if_pos rfl, if_pos rfl, if_pos rfl, if_pos rfl, if_neg (Int.not_le.2 (Int.ofNat_lt.2 hlt))]
    exact g4 k (by omega)
  | @cons now m l hm _ ih =>
    intro hnow i hi hd
    rw [List.length_cons] at hi
    have hil : i < ms.length := by omega
    have hmi : ms[i] = m := by
      rw [List.drop_eq_getElem_cons hil] at hd
      exact (List.cons.inj hd).1
    have hdn : ms.drop (i + 1) = l := by
      rw [List.drop_eq_getElem_cons hil] at hd
      exact (List.cons.inj hd).2
    obtain ⟨m1, m2⟩ := mvK_lt hm
    have hml : (m : Int) < (ks.length : Int) := Int.ofNat_lt.2 m1
    have h1 := (fits_both ks now (m : Int) hn).2
    have e1 : fitsR ks now (m : Int) = (true, true) := by
      unfold fitsR
      rw [if_pos ⟨ask_of hk hnow, Int.natCast_nonneg _, hml⟩, Int.toNat_natCast, m2]
    rw [e1] at h1
    have h2 := (move_both ks now (m : Int) hn).2
    have e2 : moveV ks now (m : Int) = (tx (flipAt now m), true) := by
      unfold moveV
      rw [if_pos ⟨ask_of hk hnow, Int.natCast_nonneg _, hml, by rw [Int.toNat_natCast]; exact m2⟩, Int.toNat_natCast]
    rw [e2] at h2
    have h3 := ih (okN_flip hnow m) (i + 1) (by omega) hdn
    refine ev_num2 h1 h2 h3 (fun k g1 g2 => ?_)
    simp only [laws_FnKeysLead.l0]
    rw [if_pos (Int.ofNat_lt.2 hil), if_pos (Int.natCast_nonneg _), if_pos (by rw [ints_len]; exact Int.ofNat_lt.2 hil), rd_ints hil, hmi, g1, obind, g2, obind, if_pos rfl, if_pos rfl, if_pos rfl, succ64 (by omega)]
end
theorem big_f (w z : List Int) : ∃ b, laws_big.f w z = some b := by
  unfold laws_big.f
  by_cases c : (w.length : Int) > 1048576
  · rw [if_pos c]; exact ⟨_, rfl⟩
  · rw [if_neg c]; exact ⟨_, rfl⟩
/-- The law behind its first draw. -/
theorem lead_f {w z : List Int} {L : List ByteArray} {a b : ByteArray} {first : List Int} {ok three : Bool} {few ways : Int} (hb : laws_big.f w z = some false) (hw : Ev (fun k => spec_DrawFirstKeyed.f k w) (L, a, b)) (hk : first.length ≤ 1000000)
    (f1 : Ev (fun k => impl_FirstKeyed.f k L a b) (first, ok)) (f2 : Ev (fun k => spec_FirstKeyed.f k L a b) (first, ok)) (g1 : Ev (fun k => impl_FewestKeyed.f k L a b) (few, ok)) (g2 : Ev (fun k => spec_FewestKeyed.f k L a b) (few, ok))
    (c1 : Ev (fun k => impl_CountKeyedWays.f k L a b) (ways, three)) (c2 : Ev (fun k => spec_CountKeyedWays.f k L a b) (ways, three)) (hp : three = true → decide (ways > 0) = ok) (ho : ok = true → three = true)
    (hj : Ev (fun k => laws_FnKeysLead.j0 k z L a b first ok few false) true) : Ev (fun k => laws_FnKeysLead.f k w z) true := by
  obtain ⟨K0, h0⟩ := ev_at hw
  obtain ⟨K1, h1⟩ := ev_at f1
  obtain ⟨K2, h2⟩ := ev_at f2
  obtain ⟨K3, h3⟩ := ev_at g1
  obtain ⟨K4, h4⟩ := ev_at g2
  obtain ⟨K5, h5⟩ := ev_at c1
  obtain ⟨K6, h6⟩ := ev_at c2
  obtain ⟨K7, h7⟩ := ev_at (ySame first hk)
  obtain ⟨K8, h8⟩ := ev_at hj
  refine ⟨K0 + K1 + K2 + K3 + K4 + K5 + K6 + K7 + K8, fun j hk => ?_⟩
  have hn : ∀ x : Bool, ¬ ((x != x) = true) := fun x => by rw [bne_self_eq_false]; exact Bool.false_ne_true
  have h8 := h8 j (by omega)
  show laws_FnKeysLead.f j w z = _
  unfold laws_FnKeysLead.f
  rw [hb, obind, if_neg Bool.false_ne_true, h0 j (by omega), obind]
  show ((impl_FirstKeyed.f j L a b).bind _) = _
  rw [h1 j (by omega), obind]
  show ((spec_FirstKeyed.f j L a b).bind _) = _
  rw [h2 j (by omega), obind]
  show ((impl_FewestKeyed.f j L a b).bind _) = _
  rw [h3 j (by omega), obind]
  show ((spec_FewestKeyed.f j L a b).bind _) = _
  rw [h4 j (by omega), obind]
  show ((impl_CountKeyedWays.f j L a b).bind _) = _
  rw [h5 j (by omega), obind]
  show ((spec_CountKeyedWays.f j L a b).bind _) = _
  rw [h6 j (by omega), obind]
  show (if (ok != ok) = true then _ else ((laws_ySame.f j first first).bind _)) = _
  rw [if_neg (hn ok), h7 j (by omega), obind, if_pos rfl]
  cases three with
  | true =>
    have hpo := hp rfl
    show (if (ok != ok) = true then _ else (if few = few then (if (true != true) = true then _ else (if ways = ways then (if (ok != ok) = true then _ else (if true = true then (if ((decide (ways > 0)) != ok) = true then _ else (if ok = true then (laws_FnKeysLead.j0 j z L a b first ok few (!true)) else (laws_FnKeysLead.j0 j z L a b first ok few false))) else _)) else _)) else _)) = _
    rw [if_neg (hn ok), if_pos rfl, if_neg (hn true), if_pos rfl, if_neg (hn ok), if_pos rfl, hpo, if_neg (hn ok)]
    cases ok with
    | true => rw [if_pos rfl]; exact h8
    | false => rw [if_neg Bool.false_ne_true]; exact h8
  | false =>
    have hof : ok = false := Bool.eq_false_iff.2 (fun h => Bool.false_ne_true (ho h))
    subst hof
    show (if (false != false) = true then _ else (if few = few then (if (false != false) = true then _ else (if ways = ways then (if (false != false) = true then _ else (if false = true then _ else (if false = true then _ else (laws_FnKeysLead.j0 j z L a b first false few false)))) else _)) else _)) = _
    rw [if_neg (hn false), if_pos rfl, if_neg (hn false), if_pos rfl, if_neg (hn false), if_neg Bool.false_ne_true, if_neg Bool.false_ne_true]
    exact h8
end Go.Proofs.YtdgpkdgpmidaoaaDoor.Lem
namespace Go.Proofs.YtdgpkdgpmidaoaaDoor.Pure
open Go.RowKit Go.Proofs.YtdgpkdgpmidaoaaDoor.Lem Go.Proofs.YtdgpkdgpmidaoaaDoor.PK Go.Proofs.YtdgpkdgpmidaoaaDoorW.PrintWords Go.Proofs.YtdgpkdgpmidaoaaDoorW.PrintLast Go.Proofs.YtdgpkdgpmidaoaaDoorW.PrintMore Go.Proofs.YtdgpkdgpmidaoaaDoor.Ring Go.Proofs.YtdgpkdgpmidaoaaDoor.Bfs

theorem FnKeysLead : laws_FnKeysLead.Pure := by
  intro w z _ _ hw0 _ _ hz0
  have key : Ev (fun k => laws_FnKeysLead.f k w z) true := by
    obtain ⟨bb, hb⟩ := big_f w z
    cases bb with
    | true =>
      unfold laws_FnKeysLead.f
      rw [hb]
      exact Ev.congr (fun k => by rw [obind, if_pos rfl]) (Ev.now _)
    | false =>
    have hz := byts_of hz0
    obtain ⟨L, ab, bb, hw, hL⟩ := drawFirst (byts_of hw0)
    obtain ⟨ks, rfl⟩ := as_tx L
    obtain ⟨a, rfl⟩ : ∃ s, ab = tx s := ⟨ab.data.toList, (tx_self ab).symm⟩
    obtain ⟨b, rfl⟩ : ∃ t, bb = tx t := ⟨bb.data.toList, (tx_self bb).symm⟩
    rw [List.length_map] at hL
    have hn : ks.length ≤ 1048576 := by omega
    obtain ⟨R, hR, f1, f2⟩ := first_both ks a b hn
    obtain ⟨g1, g2⟩ := few_both ks a b hn
    obtain ⟨c1, c2⟩ := ways_both ks a b hL
    rcases hR with ⟨rfl, hno⟩ | ⟨hab, ms, hfar, hms, rfl⟩
    · have e : fewV ks a b = (0, false) := by
        unfold fewV
        by_cases c : (askK ks a && askK ks b) = true
        · obtain ⟨hk, ha, hb'⟩ := ask_two c
          rw [if_pos c, ← found_sym hk ha hb', hno c]
          rfl
        · rw [if_neg c]
      rw [e] at g1 g2
      refine lead_f hb hw (Nat.zero_le _) f2 f1 g2 g1 c2 c1 (fun h3 => ?_) (fun h => absurd h Bool.false_ne_true) ?_
      · by_cases c : (askK ks a && askK ks b) = true
        · obtain ⟨hk, ha, hb'⟩ := ask_two c
          have ew : waysV ks a b = ((foundK ks a).ways b, true) := if_pos c
          show decide ((waysV ks a b).1 > 0) = false
          rw [ew, (waysK hk hL ha).2 (by rw [← found_sym hk ha hb', hno c])]
          rfl
        · have ew : waysV ks a b = (0, false) := if_neg c
          have h3 : (waysV ks a b).2 = true := h3
          rw [ew] at h3
          exact absurd h3 Bool.false_ne_true
      · refine Ev.step (fun k => ?_) (lead_j2 hz)
        simp only [laws_FnKeysLead.j0]
        rw [if_neg Bool.false_ne_true, if_neg Bool.false_ne_true]
    · obtain ⟨hk, ha, hb'⟩ := ask_two hab
      have hfar2 : (foundK ks a).far b = some ms.length := by rw [← found_sym hk ha hb']; exact hfar
      have e : fewV ks a b = ((ms.length : Int), true) := by
        unfold fewV
        rw [if_pos hab, hfar2]
        rfl
      rw [e] at g1 g2
      have ew : waysV ks a b = ((foundK ks a).ways b, true) := if_pos hab
      rw [ew] at c1 c2
      have I : Inv (stepK ks) b (foundK ks b) (foundK ks b).q.length := (found_good (setupK hk) hb').1
      have G : GoodS (okN ks.length) (foundK ks b) := (found_good (setupK hk) hb').2
      have hlt := G.bnd a ms.length hfar
      have hle := G.len (setupK hk) I.nodup
      have hpw := pow10 (keys_parts hk).1.2
      refine lead_f hb hw (by rw [ints_len]; omega) f2 f1 g2 g1 c2 c1 (fun _ => ?_) (fun _ => rfl) ?_
      · exact decide_eq_true ((waysK_pos hk hL ha).2 (by rw [hfar2]; simp))
      · refine Ev.step (fun k => ?_) (lead_l0 hz hk ha hb' ms hfar ms a hms ha 0 (Nat.zero_add _) rfl)
        simp only [laws_FnKeysLead.j0]
        rw [if_neg Bool.false_ne_true, if_pos trivial, ints_len]
        rfl
  obtain ⟨K, h⟩ := key
  exact ⟨K, h K (Nat.le_refl _)⟩
end Go.Proofs.YtdgpkdgpmidaoaaDoor.Pure
