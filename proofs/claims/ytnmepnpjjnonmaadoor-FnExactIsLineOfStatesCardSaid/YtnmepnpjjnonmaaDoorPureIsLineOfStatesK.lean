/-
  Whether the states form a line by keys: the law holds.
-/
import Derived.Test.YtnmepnpjjnonmaaDoorPurePartsK
import Derived.Test.YtnmepnpjjnonmaaDoorLemRowsK
import Derived.Test.YtnmepnpjjnonmaaDoorPKx9
namespace Go.Proofs.YtnmepnpjjnonmaaDoor.Lem
open Go.RowKit Go.Proofs.YtnmepnpjjnonmaaDoor.PK Go.Proofs.YtnmepnpjjnonmaaDoorW.PrintWords Go.Proofs.YtnmepnpjjnonmaaDoorW.PrintLast Go.Proofs.YtnmepnpjjnonmaaDoorW.PrintMore Go.Proofs.YtnmepnpjjnonmaaDoor.Ring Go.Proofs.YtnmepnpjjnonmaaDoor.Bfs
set_option linter.unusedVariables false
set_option linter.unusedSimpArgs false

def gK (ks : List Stt) (s : Stt) : Nat := (mvK ks s ks.length).length
def dgK (g : Nat → Nat) (i : Nat) : List Int := (List.range i).map (fun j => ((g j : Nat) : Int))
theorem dgK_len (g : Nat → Nat) (i : Nat) : (dgK g i).length = i := by unfold dgK; rw [List.length_map, List.length_range]
theorem dgK_succ (g : Nat → Nat) (i : Nat) : dgK g (i + 1) = dgK g i ++ [((g i : Nat) : Int)] := by
  unfold dgK
  rw [List.range_succ, List.map_append]
  rfl
theorem degrees {ks : List Stt} (hk : keysOk ks = true) : Ev (fun k => spec_keDegrees.f k (ks.map tx)) (dgK (fun i => gK ks (stOf ks.length i)) (2 ^ ks.length)) := by
  obtain ⟨⟨k1, k2⟩, k3⟩ := keys_parts hk
  have h10 : (2 : Nat) ^ ks.length ≤ 2 ^ 10 := Nat.pow_le_pow_right (by decide) k2
  have h1024 : (2 : Nat) ^ 10 = 1024 := by decide
  have go : ∀ d i, i + d = 2 ^ ks.length → Ev (fun k => spec_keDegrees.l0 k (ks.map tx) (dgK (fun i => gK ks (stOf ks.length i)) i) (i : Int)) (dgK (fun i => gK ks (stOf ks.length i)) (2 ^ ks.length)) := by
    intro d
    induction d with
    | zero =>
      intro i hi
      obtain rfl : i = 2 ^ ks.length := by omega
      refine Ev.step (f := fun _ => some (dgK (fun i => gK ks (stOf ks.length i)) (2 ^ ks.length))) (fun k => ?_) (Ev.now _)
      simp only [spec_keDegrees.l0]
      rw [List.length_map, shl_one ks.length (by omega), if_neg (Int.lt_irrefl _)]
    | succ d ih =>
      intro i hi
      have hil : i < 2 ^ ks.length := by omega
      have hr : Ev (fun k => spec_riState.f k (ks.length : Int) (i : Int)) (tx (stOf ks.length i)) := riState ks.length i (by omega) (by omega)
      have hm := keMoves hk (s := stOf ks.length i) ⟨stOf_length _ _, stOf_ok _ _⟩
      have hlen := dgK_len (fun i => gK ks (stOf ks.length i)) i
      have h := ih (i + 1) (by omega)
      rw [dgK_succ] at h
      refine Ev.step (f := fun k => (spec_riState.f k (ks.length : Int) (i : Int)).bind fun t109 => ((spec_keMoves.f k (ks.map tx) t109).bind fun t110 => spec_keDegrees.l0 k (ks.map tx) (dgK (fun i => gK ks (stOf ks.length i)) i ++ [(t110.length : Int)]) ((i + 1 : Nat) : Int))) (fun k => ?_) (Ev.bind hr (Ev.bind hm ?_))
      · simp only [spec_keDegrees.l0]
        rw [List.length_map, shl_one ks.length (by omega), if_pos (Int.ofNat_lt.2 hil), succ64 (by omega)]
        simp only [if_pos (show (dgK (fun i => gK ks (stOf ks.length i)) i).length < 17592186044416 by omega)]
      · have e : (ints (mvK ks (stOf ks.length i) ks.length)).length = gK ks (stOf ks.length i) := by unfold ints gK; rw [List.length_map]
        rw [e]
        exact h
  have h := go (2 ^ ks.length) 0 (Nat.zero_add _)
  unfold spec_keDegrees.f
  exact h
def big (l : List Nat) : Bool := l.any (fun x => decide (2 < x))
def ends (l : List Nat) : Nat := l.countP (fun x => x == 1)
theorem big_cons (x : Nat) (l : List Nat) : big (x :: l) = (decide (2 < x) || big l) := rfl
theorem ends_cons (x : Nat) (l : List Nat) : ends (x :: l) = (if x = 1 then ends l + 1 else ends l) := by
  unfold ends
  rw [List.countP_cons]
  by_cases h : x = 1
  · rw [if_pos h, if_pos (beq_iff_eq.2 h)]
  · rw [if_neg h, if_neg (fun e => h (beq_iff_eq.1 e))]
    rfl
theorem ends_le (l : List Nat) : ends l ≤ l.length := List.countP_le_length
theorem big_perm {l m : List Nat} (h : l.Perm m) : big l = big m := by
  unfold big
  rw [Bool.eq_iff_iff, List.any_eq_true, List.any_eq_true]
  exact ⟨fun ⟨x, hx, e⟩ => ⟨x, h.mem_iff.1 hx, e⟩, fun ⟨x, hx, e⟩ => ⟨x, h.mem_iff.2 hx, e⟩⟩
theorem ends_perm {l m : List Nat} (h : l.Perm m) : ends l = ends m := h.countP_eq _
/-- The answer: the greatest number of links, the ends, the parts. -/
def lineA (b : Bool) (e p : Nat) : Bool × Bool := if b = true then (false, true) else (decide (e = 2 ∧ p = 1), true)
theorem rd_nat {l : List Nat} {i : Nat} (h : i < l.length) : rd (l.map (fun (x : Nat) => (x : Int))) (i : Int) = ((l[i] : Nat) : Int) := rd_ints h
theorem il_spec {ks : List Stt} (hk : keysOk ks = true) (l : List Nat) (hl : l.length ≤ 1024) : ∀ d i (e : Nat), i + d = l.length → e ≤ i →
    Ev (fun k => spec_IsLineOfStates.l0 k (ks.map tx) (e : Int) (ints l) (l.length : Int) (i : Int)) (lineA (big (l.drop i)) (e + ends (l.drop i)) (partsK ks)) := by
  intro d
  induction d with
  | zero =>
    intro i e hi he
    rw [List.drop_eq_nil_of_le (by omega)]
    have e0 : lineA (big []) (e + ends []) (partsK ks) = (decide (e = 2 ∧ partsK ks = 1), true) := rfl
    rw [e0]
    by_cases h2 : e = 2
    · obtain ⟨K, h⟩ := keParts hk
      refine ⟨K + 1, fun n hn => ?_⟩
      obtain ⟨k, rfl⟩ : ∃ k, n = k + 1 := ⟨n - 1, by omega⟩
      have h := h k (by omega)
      have h : spec_keParts.f k (ks.map tx) = some ((partsK ks : Nat) : Int) := h
      show spec_IsLineOfStates.l0 (k + 1) (ks.map tx) (e : Int) (ints l) (l.length : Int) (i : Int) = _
      simp only [spec_IsLineOfStates.l0]
      rw [if_neg (show ¬ (i : Int) < (l.length : Int) from fun h => by have := Int.ofNat_lt.1 h; omega), if_pos (show (e : Int) = 2 by rw [h2]; rfl), h, obind]
      congr 2
      rw [Bool.eq_iff_iff, beq_iff_eq, decide_eq_true_eq]
      exact ⟨fun h => ⟨h2, by omega⟩, fun h => by rw [h.2]; rfl⟩
    · refine Ev.step (f := fun _ => some (decide (e = 2 ∧ partsK ks = 1), true)) (fun k => ?_) (Ev.now _)
      simp only [spec_IsLineOfStates.l0]
      rw [if_neg (show ¬ (i : Int) < (l.length : Int) from fun h => by have := Int.ofNat_lt.1 h; omega), if_neg (show ¬ (e : Int) = 2 from fun h => h2 (by omega)), decide_eq_false (show ¬ (e = 2 ∧ partsK ks = 1) from fun h => h2 h.1)]
  | succ d ih =>
    intro i e hi he
    have hil : i < l.length := by omega
    have hl2 : (ints l).length = l.length := ints_len l
    rw [List.drop_eq_getElem_cons hil, big_cons, ends_cons]
    by_cases h2 : 2 < l[i]
    · rw [decide_eq_true h2]
      have e0 : ∀ n b, lineA (true || b) n (partsK ks) = (false, true) := fun _ _ => rfl
      rw [e0]
      refine Ev.step (f := fun _ => some (false, true)) (fun k => ?_) (Ev.now _)
      simp only [spec_IsLineOfStates.l0]
      rw [if_pos (Int.ofNat_lt.2 hil), if_pos (Int.natCast_nonneg _), hl2, if_pos (Int.ofNat_lt.2 hil), rd_ints hil, if_pos (show ((l[i] : Nat) : Int) > 2 by omega)]
    · rw [decide_eq_false h2, Bool.false_or]
      by_cases h1 : l[i] = 1
      · rw [if_pos h1]
        have h := ih (i + 1) (e + 1) (by omega) (by omega)
        rw [show e + (ends (l.drop (i + 1)) + 1) = e + 1 + ends (l.drop (i + 1)) by omega]
        refine Ev.step (fun k => ?_) h
        simp only [spec_IsLineOfStates.l0]
        rw [if_pos (Int.ofNat_lt.2 hil), if_pos (Int.natCast_nonneg _), hl2, if_pos (Int.ofNat_lt.2 hil), rd_ints hil, if_neg (show ¬ ((l[i] : Nat) : Int) > 2 by omega), if_pos (show ((l[i] : Nat) : Int) = 1 by omega), succ64 (n := e) (by omega), succ64 (n := i) (by omega)]
      · rw [if_neg h1]
        refine Ev.step (fun k => ?_) (ih (i + 1) e (by omega) (by omega))
        simp only [spec_IsLineOfStates.l0]
        rw [if_pos (Int.ofNat_lt.2 hil), if_pos (Int.natCast_nonneg _), hl2, if_pos (Int.ofNat_lt.2 hil), rd_ints hil, if_neg (show ¬ ((l[i] : Nat) : Int) > 2 by omega), if_neg (show ¬ ((l[i] : Nat) : Int) = 1 by omega), succ64 (n := i) (by omega)]
theorem il_impl (P : Nat) (rows : List (List Int)) (l : List Nat) (hl : l.length ≤ 1024) (hr : rows.length = l.length) (hg : ∀ i (h : i < l.length), (rows.getD i []).length = l[i]) : ∀ d i (e : Nat), i + d = l.length → e ≤ i →
    Ev (fun k => impl_IsLineOfStates.l0 k (P : Int) (e : Int) rows (rows.length : Int) (i : Int)) (lineA (big (l.drop i)) (e + ends (l.drop i)) P) := by
  intro d
  induction d with
  | zero =>
    intro i e hi he
    rw [List.drop_eq_nil_of_le (by omega)]
    have e0 : lineA (big []) (e + ends []) P = (decide (e = 2 ∧ P = 1), true) := rfl
    rw [e0]
    by_cases h2 : P = 1
    · refine Ev.step (f := fun _ => some (decide (e = 2 ∧ P = 1), true)) (fun k => ?_) (Ev.now _)
      simp only [impl_IsLineOfStates.l0]
      rw [if_neg (show ¬ (i : Int) < (rows.length : Int) from fun h => by have := Int.ofNat_lt.1 h; omega), if_pos (show (P : Int) = 1 by rw [h2]; rfl)]
      congr 2
      rw [Bool.eq_iff_iff, beq_iff_eq, decide_eq_true_eq]
      exact ⟨fun h => ⟨by omega, h2⟩, fun h => by rw [h.1]; rfl⟩
    · refine Ev.step (f := fun _ => some (decide (e = 2 ∧ P = 1), true)) (fun k => ?_) (Ev.now _)
      simp only [impl_IsLineOfStates.l0]
      rw [if_neg (show ¬ (i : Int) < (rows.length : Int) from fun h => by have := Int.ofNat_lt.1 h; omega), if_neg (show ¬ (P : Int) = 1 from fun h => h2 (by omega)), decide_eq_false (show ¬ (e = 2 ∧ P = 1) from fun h => h2 h.2)]
  | succ d ih =>
    intro i e hi he
    have hil : i < l.length := by omega
    have hir : i < rows.length := by omega
    have hrd : ((rd_L3 rows (i : Int)).length : Int) = ((l[i] : Nat) : Int) := by rw [← hg i hil]; rfl
    rw [List.drop_eq_getElem_cons hil, big_cons, ends_cons]
    by_cases h2 : 2 < l[i]
    · rw [decide_eq_true h2]
      have e0 : ∀ n b, lineA (true || b) n P = (false, true) := fun _ _ => rfl
      rw [e0]
      refine Ev.step (f := fun _ => some (false, true)) (fun k => ?_) (Ev.now _)
      simp only [impl_IsLineOfStates.l0]
      rw [if_pos (Int.ofNat_lt.2 hir), if_pos (Int.natCast_nonneg _), if_pos (Int.ofNat_lt.2 hir), hrd, if_pos (show ((l[i] : Nat) : Int) > 2 by omega)]
    · rw [decide_eq_false h2, Bool.false_or]
      by_cases h1 : l[i] = 1
      · rw [if_pos h1]
        have h := ih (i + 1) (e + 1) (by omega) (by omega)
        rw [show e + (ends (l.drop (i + 1)) + 1) = e + 1 + ends (l.drop (i + 1)) by omega]
        refine Ev.step (fun k => ?_) h
        simp only [impl_IsLineOfStates.l0]
        rw [if_pos (Int.ofNat_lt.2 hir), if_pos (Int.natCast_nonneg _), if_pos (Int.ofNat_lt.2 hir), hrd, if_neg (show ¬ ((l[i] : Nat) : Int) > 2 by omega), if_pos (show ((l[i] : Nat) : Int) = 1 by omega), succ64 (n := e) (by omega), succ64 (n := i) (by omega)]
      · rw [if_neg h1]
        refine Ev.step (fun k => ?_) (ih (i + 1) e (by omega) (by omega))
        simp only [impl_IsLineOfStates.l0]
        rw [if_pos (Int.ofNat_lt.2 hir), if_pos (Int.natCast_nonneg _), if_pos (Int.ofNat_lt.2 hir), hrd, if_neg (show ¬ ((l[i] : Nat) : Int) > 2 by omega), if_neg (show ¬ ((l[i] : Nat) : Int) = 1 by omega), succ64 (n := i) (by omega)]
/-! ### The two orders -/
noncomputable def sB (n b : Nat) : Stt := if h : b < 2 ^ n then Classical.choose (bv_sur n b h) else []
theorem sB_spec {n b : Nat} (h : b < 2 ^ n) : okN n (sB n b) ∧ bv (sB n b) = b := by
  unfold sB
  rw [dif_pos h]
  exact Classical.choose_spec (bv_sur n b h)
theorem bits_perm (n : Nat) : ((List.range' 0 (2 ^ n)).map (sB n)).Perm (tsK n) := by
  rw [List.perm_ext_iff_of_nodup ?_ (tsK_nodup n)]
  · intro s
    constructor
    · intro h
      obtain ⟨m, hm, rfl⟩ := List.mem_map.1 h
      rw [List.mem_range'_1] at hm
      exact tsK_mem n _ (sB_spec (by omega)).1
    · intro h
      have ho := tsK_ok n s h
      have hb := bvN_lt ho
      refine List.mem_map.2 ⟨bv s, ?_, ?_⟩
      · rw [List.mem_range'_1]
        exact ⟨Nat.zero_le _, by omega⟩
      · exact bvN_inj (sB_spec hb).1 ho (sB_spec hb).2
  · unfold List.Nodup
    rw [List.pairwise_map]
    refine List.Pairwise.imp_of_mem (fun {a b} ha hb hab e => hab ?_) List.nodup_range'
    rw [List.mem_range'_1] at ha hb
    have h1 := (sB_spec (n := n) (b := a) (by omega)).2
    have h2 := (sB_spec (n := n) (b := b) (by omega)).2
    rw [← h1, ← h2, e]
noncomputable def degB (ks : List Stt) : List Nat := ((List.range' 0 (2 ^ ks.length)).map (sB ks.length)).map (gK ks)
def degN (ks : List Stt) : List Nat := ((List.range' 0 (2 ^ ks.length)).map (stOf ks.length)).map (gK ks)
theorem deg_perm (ks : List Stt) : (degN ks).Perm (degB ks) := ((states_perm ks.length).trans (bits_perm ks.length).symm).map _
theorem degN_len (ks : List Stt) : (degN ks).length = 2 ^ ks.length := by simp [degN]
theorem degB_len (ks : List Stt) : (degB ks).length = 2 ^ ks.length := by simp [degB]
theorem dgK_ints (ks : List Stt) : dgK (fun i => gK ks (stOf ks.length i)) (2 ^ ks.length) = ints (degN ks) := by
  unfold dgK degN ints
  rw [List.map_map, List.map_map, List.range_eq_range']
  rfl
theorem get_map2 {α β γ : Type} (f : α → β) (g : β → γ) (l : List α) (i : Nat) (h : i < ((l.map f).map g).length) (h2 : i < l.length) : ((l.map f).map g)[i] = g (f l[i]) := by
  rw [List.getElem_map, List.getElem_map]
theorem degB_get {ks : List Stt} {b : Nat} (h : b < (degB ks).length) : (degB ks)[b] = gK ks (sB ks.length b) := by
  have h2 : b < (List.range' 0 (2 ^ ks.length)).length := by rw [List.length_range']; rwa [degB_len] at h
  have e := get_map2 (sB ks.length) (gK ks) (List.range' 0 (2 ^ ks.length)) b h h2
  rw [List.getElem_range', Nat.zero_add, Nat.one_mul] at e
  exact e
theorem both_line (ks : List Stt) (hn : ks.length ≤ 1048576) : ∃ R, Ev (fun k => spec_IsLineOfStates.f k (ks.map tx)) R ∧ Ev (fun k => impl_IsLineOfStates.f k (ks.map tx)) R := by
  have hP := implParts ks hn
  unfold resK at hP
  cases hk : keysOk ks with
  | false =>
    rw [hk, if_neg Bool.false_ne_true] at hP
    refine ⟨(false, false), ?_, ?_⟩
    · unfold spec_IsLineOfStates.f
      refine Ev.bind (keGood ks (by omega)) ?_
      rw [hk]
      exact Ev.congr (fun k => if_neg (by simp)) (Ev.now _)
    · unfold impl_IsLineOfStates.f
      exact Ev.bind hP (Ev.congr (fun k => if_neg (by simp)) (Ev.now _))
  | true =>
    rw [hk, if_pos rfl] at hP
    obtain ⟨⟨kl1, kl2⟩, k3⟩ := keys_parts hk
    have hp := pow10 kl2
    have l1 := degN_len ks
    have l2 := degB_len ks
    refine ⟨lineA (big (degN ks)) (ends (degN ks)) (partsK ks), ?_, ?_⟩
    · unfold spec_IsLineOfStates.f
      refine Ev.bind (keGood ks (by omega)) ?_
      rw [hk]
      refine Ev.congr (fun k => if_pos rfl) (Ev.bind (degrees hk) ?_)
      have h := il_spec hk (degN ks) (by omega) (degN ks).length 0 0 (Nat.zero_add _) (Nat.le_refl _)
      rw [List.drop_zero, Nat.zero_add] at h
      rw [dgK_ints, ints_len]
      exact h
    · unfold impl_IsLineOfStates.f
      refine Ev.bind hP (Ev.congr (fun k => if_pos rfl) (Ev.bind (rows hk) ?_))
      have h := il_impl (partsK ks) (rwK ks (tsK ks.length)) (degB ks) (by omega) (by rw [rwK_len, l2]) (fun b hb => by
        have hs := sB_spec (n := ks.length) (b := b) (by omega)
        have h := rwK_get hs.1 (tsK ks.length) (tsK_ok ks.length)
        rw [if_pos (tsK_mem _ _ hs.1), hs.2] at h
        rw [degB_get hb, h, lkR_len]
        rfl) (degB ks).length 0 0 (Nat.zero_add _) (Nat.le_refl _)
      rw [List.drop_zero, Nat.zero_add, ← big_perm (deg_perm ks), ← ends_perm (deg_perm ks)] at h
      exact h
end Go.Proofs.YtnmepnpjjnonmaaDoor.Lem
namespace Go.Proofs.YtnmepnpjjnonmaaDoor.Pure
open Go.RowKit Go.Proofs.YtnmepnpjjnonmaaDoor.Lem Go.Proofs.YtnmepnpjjnonmaaDoor.PK Go.Proofs.YtnmepnpjjnonmaaDoorW.PrintWords Go.Proofs.YtnmepnpjjnonmaaDoorW.PrintLast Go.Proofs.YtnmepnpjjnonmaaDoorW.PrintMore

theorem FnExactIsLineOfStates : laws_FnExactIsLineOfStates.Pure := by
  intro L hl hz
  obtain ⟨t, ht, hc⟩ := szStringS L hl hz
  have key : Ev (fun k => laws_FnExactIsLineOfStates.f k L) true := by
    unfold laws_FnExactIsLineOfStates.f
    refine Ev.bind ht ?_
    by_cases c1 : t < 0
    · exact Ev.congr (fun k => if_pos c1) (Ev.now _)
    have hh := hc.resolve_left c1
    have h1 := toStringS L hh
    have h2 := eqStringS L hh
    obtain ⟨ks, rfl⟩ := as_tx L
    obtain ⟨R, e1, e2⟩ := both_line ks (by rwa [List.length_map] at hh)
    refine Ev.congr (fun k => if_neg c1) (Ev.bind h1 (Ev.bind e1 (Ev.bind h1 (Ev.bind e2 ?_))))
    refine Ev.congr (fun k => by rw [bne_self_eq_false, if_neg Bool.false_ne_true, bne_self_eq_false]) ?_
    refine Ev.step (fun k => by simp only [laws_FnExactIsLineOfStates.j0]; rw [if_neg Bool.false_ne_true]) (Ev.bind h1 ?_)
    exact Ev.bind h2 (Ev.congr (fun k => if_pos rfl) (Ev.now _))
  obtain ⟨K, h⟩ := key
  exact ⟨K, h K (Nat.le_refl _)⟩
end Go.Proofs.YtnmepnpjjnonmaaDoor.Pure
