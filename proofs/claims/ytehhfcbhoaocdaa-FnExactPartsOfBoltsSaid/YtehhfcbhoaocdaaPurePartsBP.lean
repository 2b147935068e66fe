/-
  How many parts the allowed states of bolts fall into: the law holds.
-/
import Derived.Test.YtehhfcbhoaocdaaLemBoFarP
import Derived.Test.YtehhfcbhoaocdaaLemCopyP
import Derived.Test.YtehhfcbhoaocdaaPPx14
import Derived.Test.YtehhfcbhoaocdaaMapB
namespace Go.Proofs.Ytehhfcbhoaocdaa.Lem
open Go.RowKit Go.Proofs.Ytehhfcbhoaocdaa.PP Go.Proofs.YtehhfcbhoaocdaaW.PrintWords Go.Proofs.YtehhfcbhoaocdaaW.PrintLast Go.Proofs.YtehhfcbhoaocdaaW.PrintMore Go.Proofs.Ytehhfcbhoaocdaa.Bfs
set_option linter.unusedVariables false
set_option linter.unusedSimpArgs false

def cnt (cls : Stt → Stt → Bool) : List Stt → (Stt → Bool) → Nat
  | [], _ => 0
  | s :: l, f => if f s = true then cnt cls l f else cnt cls l (fun t => f t || cls s t) + 1
theorem cnt_le (cls : Stt → Stt → Bool) : ∀ (l : List Stt) (f : Stt → Bool), cnt cls l f ≤ l.length
  | [], _ => Nat.le_refl _
  | s :: l, f => by
    unfold cnt
    split
    · exact Nat.le_succ_of_le (cnt_le cls l f)
    · exact Nat.succ_le_succ (cnt_le cls l _)
theorem rdB (l : List Bool) (i : Nat) : rdOf false l (i : Int) = l.getD i false := rfl
theorem getD_setB {l : List Bool} {i j : Nat} {v : Bool} (hi : i < l.length) : (l.set i v).getD j false = if i = j then v else l.getD j false := by
  rw [List.getD_eq_getElem?_getD, List.getElem?_set, List.getD_eq_getElem?_getD]
  by_cases e : i = j
  · rw [if_pos e, if_pos e, if_pos hi]; rfl
  · rw [if_neg e, if_neg e]
def mB (g : Stt → Bool) : ByteArray → Bool := fun b => g b.data.toList
theorem mB_tx (g : Stt → Bool) (s : Stt) : mB g (tx s) = g s := by unfold mB; rw [tx_data]
theorem mB_upd (g : Stt → Bool) (t : Stt) : MapB.upd (mB g) (tx t) = mB (fun s => if s = t then true else g s) := by
  funext b
  simp only [MapB.upd, mB, toL_eq]
theorem po_l1 (srch : Nat → ByteArray → Option (List ByteArray)) (ss : List ByteArray) (q : List Stt) (hq : q.length ≤ 1024) (hs : ∀ s ∈ q, (tx s).size ≤ maxLen) (n i R : Int) : ∀ d j (c : Nat) (g : Stt → Bool), j + d = q.length → c + d ≤ 2000000 →
    Ev (fun k => impl_partsOf.l0 srch ss k (mB (fun s => g s || (q.drop j).contains s)) (c + d) n (wrap64 (i + 1))) R →
    Ev (fun k => impl_partsOf.l1 srch ss k (q.map tx) (mB g) c n i (j : Int)) R := by
  intro d
  induction d with
  | zero =>
    intro j c g hj hc H
    have e : (fun s => g s || (q.drop j).contains s) = g := by
      funext s
      rw [List.drop_eq_nil_of_le (by omega)]
      simp
    rw [e] at H
    refine Ev.step (fun k => ?_) H
    simp only [impl_partsOf.l1]
    rw [List.length_map, if_neg (show ¬ (j : Int) < (q.length : Int) from fun h => by have := Int.ofNat_lt.1 h; omega)]
    rfl
  | succ d ih =>
    intro j c g hj hc H
    have hjl : j < q.length := by omega
    have e : (fun s => (if s = q[j] then true else g s) || (q.drop (j + 1)).contains s) = (fun s => g s || (q.drop j).contains s) := by
      funext s
      rw [List.drop_eq_getElem_cons hjl, List.contains_cons]
      by_cases h : s = q[j]
      · rw [if_pos h, beq_iff_eq.2 h]
        simp
      · rw [if_neg h, beq_eq_false_iff_ne.2 h, Bool.false_or]
    have h := ih (j + 1) (c + 1) (fun s => if s = q[j] then true else g s) (by omega) (by omega) (by
      rw [e, show c + 1 + d = c + (d + 1) by omega]
      exact H)
    refine Ev.step (fun k => ?_) h
    simp only [impl_partsOf.l1]
    rw [List.length_map, if_pos (Int.ofNat_lt.2 hjl), if_pos (Int.natCast_nonneg _), rdM hjl, if_pos ⟨hs _ (List.getElem_mem hjl), by omega⟩, mB_upd, succ64 (by omega)]
theorem ar_p {c i q : Nat} (h : c ≤ i * 1024) (h1 : i < 1024) (h2 : q ≤ 1024) : c + q ≤ 2000000 := by omega
theorem ar_q {c i q : Nat} (h : c ≤ i * 1024) (h2 : q ≤ 1024) : c + q ≤ (i + 1) * 1024 := by omega
theorem app_tx (a b : Stt) : tx a ++ tx b = tx (a ++ b) := by
  apply ba_ext
  rw [ByteArray.data_append, Array.toList_append, tx_data, tx_data, tx_data]
theorem ev_num3 {α β γ δ : Type} {f1 : Nat → Option α} {f2 : Nat → Option β} {f3 : Nat → Option γ} {t1 : α} {t2 : β} {t3 : γ} {g h : Nat → Option δ} {r : δ} (h1 : Ev f1 t1) (h2 : Ev f2 t2) (h3 : Ev f3 t3) (hh : Ev h r)
    (hk : ∀ k, f1 k = some t1 → f2 k = some t2 → f3 k = some t3 → g (k + 1) = h k) : Ev g r := by
  obtain ⟨K1, g1⟩ := h1
  obtain ⟨K2, g2⟩ := h2
  obtain ⟨K3, g3⟩ := h3
  obtain ⟨K4, g4⟩ := hh
  refine ⟨max (max K1 K2) (max K3 K4) + 1, fun n hn => ?_⟩
  obtain ⟨k, rfl⟩ : ∃ k, n = k + 1 := ⟨n - 1, by omega⟩
  rw [hk k (g1 k (by omega)) (g2 k (by omega)) (g3 k (by omega))]
  exact g4 k (by omega)
/-! ### All states, in order -/
def capB (pl : List Int) (i : Nat) : Nat := (pl.getD i 0).toNat
def ch (k : Nat) : UInt8 := UInt8.ofNat (48 + k)
/-- The states of the first bolts, in order. -/
def stL (pl : List Int) : Nat → List Stt
  | 0 => [[]]
  | i + 1 => (stL pl i).flatMap (fun s => (List.range (capB pl i)).map (fun k => s ++ [ch k]))
/-- The state with a number. -/
def stN (pl : List Int) : Nat → Nat → Stt
  | 0, _ => []
  | i + 1, q => stN pl i (q / capB pl i) ++ [ch (q % capB pl i)]
theorem range_flat {α : Type} (f : Nat → Nat → α) (p : Nat) (hp : 0 < p) : ∀ a, (List.range (a * p)).map (fun n => f (n / p) (n % p)) = (List.range a).flatMap (fun q => (List.range p).map (fun r => f q r))
  | 0 => by simp
  | a + 1 => by
    rw [Nat.succ_mul, List.range_add, List.map_append, range_flat f p hp a, List.range_succ, List.flatMap_append]
    congr 1
    simp only [List.flatMap_cons, List.flatMap_nil, List.append_nil, List.map_map]
    refine List.map_congr_left (fun r hr => ?_)
    rw [List.mem_range] at hr
    show f ((a * p + r) / p) ((a * p + r) % p) = f a r
    rw [Nat.mul_comm a p, Nat.mul_add_div hp, Nat.div_eq_of_lt hr, Nat.mul_add_mod, Nat.mod_eq_of_lt hr, Nat.add_zero]
theorem cap_at {pl : List Int} {bl : List Blk} (hg : goodB pl bl = true) {i : Nat} (hi : i < pl.length) : (2 ≤ capB pl i ∧ capB pl i ≤ 5) ∧ pl.getD i 0 = (capB pl i : Int) := by
  have hq := pl_at hg hi
  unfold capB
  omega
theorem stL_eq {pl : List Int} {bl : List Blk} (hg : goodB pl bl = true) : ∀ i, i ≤ pl.length → stL pl i = (List.range (prodTo pl i)).map (stN pl i)
  | 0, _ => rfl
  | i + 1, h => by
    have ih := stL_eq hg i (by omega)
    have hp := (cap_at hg (i := i) (by omega)).1
    have e := range_flat (fun q r => stN pl i q ++ [ch r]) (capB pl i) (by omega) (prodTo pl i)
    have e2 : (List.range (prodTo pl (i + 1))).map (stN pl (i + 1)) = (List.range (prodTo pl i * capB pl i)).map (fun n => stN pl i (n / capB pl i) ++ [ch (n % capB pl i)]) := rfl
    rw [e2, e, stL, ih, List.flatMap_map]
theorem stL_len {pl : List Int} {bl : List Blk} (hg : goodB pl bl = true) (i : Nat) (hi : i ≤ pl.length) : (stL pl i).length = prodTo pl i := by
  rw [stL_eq hg i hi, List.length_map, List.length_range]
theorem stN_len (pl : List Int) : ∀ i q, (stN pl i q).length = i
  | 0, _ => rfl
  | i + 1, q => by rw [stN, List.length_append, stN_len pl i]; rfl
theorem ch_nat {k : Nat} (h : k < 10) : (ch k).toNat = 48 + k := by
  unfold ch
  rw [UInt8.toNat_ofNat_of_lt' (by show _ < 256; omega)]
theorem stN_dg {pl : List Int} {bl : List Blk} (hg : goodB pl bl = true) : ∀ i q j, i ≤ pl.length → j < i → 0 ≤ dg (stN pl i q) j ∧ dg (stN pl i q) j ≤ pl.getD j 0 - 1
  | 0, _, j, _, h => absurd h (Nat.not_lt_zero j)
  | i + 1, q, j, hi, h => by
    have hp := cap_at hg (i := i) (by omega)
    have hl := stN_len pl i (q / capB pl i)
    by_cases e : j < i
    · have ih := stN_dg hg i (q / capB pl i) j (by omega) e
      have e2 : dg (stN pl (i + 1) q) j = dg (stN pl i (q / capB pl i)) j := by
        unfold dg
        rw [stN, List.getD_eq_getElem?_getD, List.getElem?_append_left (by omega), ← List.getD_eq_getElem?_getD]
      rw [e2]
      exact ih
    · obtain rfl : j = i := by omega
      have hm : q % capB pl j < capB pl j := Nat.mod_lt _ (by omega)
      have e2 : dg (stN pl (j + 1) q) j = ((q % capB pl j : Nat) : Int) := by
        unfold dg
        rw [stN, List.getD_eq_getElem?_getD, List.getElem?_append_right (by omega), hl, Nat.sub_self]
        show ((ch (q % capB pl j)).toNat : Int) - 48 = _
        rw [ch_nat (by omega)]
        omega
      rw [e2, hp.2]
      omega
theorem stN_st {pl : List Int} {bl : List Blk} (hg : goodB pl bl = true) (q : Nat) : isStB pl (stN pl pl.length q) = true := by
  unfold isStB
  rw [stN_len, decide_eq_true rfl, Bool.true_and, List.all_eq_true]
  intro j hj
  simp [List.mem_range'_1] at hj
  exact decide_eq_true (stN_dg hg pl.length q j (Nat.le_refl _) hj)
def allB (pl : List Int) : List Stt := stL pl pl.length
theorem all_len {pl : List Int} {bl : List Blk} (hg : goodB pl bl = true) : (allB pl).length = prodB pl := stL_len hg pl.length (Nat.le_refl _)
theorem all_get {pl : List Int} {bl : List Blk} (hg : goodB pl bl = true) {i : Nat} (h : i < (allB pl).length) : (allB pl)[i] = stN pl pl.length i := by
  have h2 : i < ((List.range (prodTo pl pl.length)).map (stN pl pl.length)).length := by
    have := all_len hg
    unfold prodB at this
    rw [List.length_map, List.length_range]
    omega
  have e : (allB pl)[i] = ((List.range (prodTo pl pl.length)).map (stN pl pl.length))[i] := by
    congr 1
    exact stL_eq hg pl.length (Nat.le_refl _)
  rw [e, List.getElem_map, List.getElem_range]
theorem all_st {pl : List Int} {bl : List Blk} (hg : goodB pl bl = true) : ∀ s ∈ allB pl, isStB pl s = true := by
  intro s hs
  unfold allB at hs
  rw [stL_eq hg pl.length (Nat.le_refl _)] at hs
  obtain ⟨q, _, rfl⟩ := List.mem_map.1 hs
  exact stN_st hg q
theorem num_ch {r : Nat} (h : r < 10) : strOfNums [(48 + (r : Int)) % 256] = tx [ch r] := by
  apply ba_ext
  rw [strOfNums_one _ (Int.natCast_nonneg r) (by omega), tx_data, Int.toNat_natCast]
  rfl

/-! ### The reference's states -/
theorem boState_l0 {pl : List Int} {bl : List Blk} (hg : goodB pl bl = true) : ∀ (i q : Nat) (suf : Stt), i ≤ pl.length → q ≤ 1000000 → suf.length + i ≤ 100 →
    Ev (fun k => spec_boState.l0 k (q : Int) (tx suf) ((i : Int) - 1) pl bl) (tx (stN pl i q ++ suf))
  | 0, q, suf, hi, hq, hs => by
    refine Ev.step (f := fun _ => some (tx suf)) (fun k => ?_) (Ev.now _)
    simp only [spec_boState.l0]
    rw [if_neg (by decide)]
  | i + 1, q, suf, hi, hq, hs => by
    have hil : i < pl.length := by omega
    obtain ⟨hp, hp2⟩ := cap_at hg hil
    have hm : q % capB pl i < capB pl i := Nat.mod_lt _ (by omega)
    have hd : q / capB pl i ≤ q := Nat.div_le_self _ _
    have ih := boState_l0 hg i (q / capB pl i) (ch (q % capB pl i) :: suf) (by omega) (by omega) (by rw [List.length_cons]; omega)
    have e0 : ((i + 1 : Nat) : Int) - 1 = (i : Int) := by omega
    have h1 := l1Num ((q % capB pl i : Nat) : Int) (Int.natCast_nonneg _) (by omega)
    rw [num_ch (by omega)] at h1
    have hrd : rd pl (i : Int) = (capB pl i : Int) := by rw [rdD, hp2]
    have e3 : stN pl (i + 1) q ++ suf = stN pl i (q / capB pl i) ++ (ch (q % capB pl i) :: suf) := by rw [stN, List.append_assoc]; rfl
    have e4 : wrap64 ((i : Int) - 1) = (i : Int) - 1 := by
      have := (good_parts hg).1.2
      exact w64 (by omega) (by omega)
    rw [e3]
    refine ev_num h1 ih (fun k hk => ?_)
    simp only [spec_boState.l0]
    have t1 : Int.tmod (q : Int) (capB pl i : Int) = ((q % capB pl i : Nat) : Int) := rfl
    have t2 : Int.tdiv (q : Int) (capB pl i : Int) = ((q / capB pl i : Nat) : Int) := rfl
    rw [e0, if_pos (show (i : Int) ≥ 0 from Int.natCast_nonneg i), if_pos (Int.natCast_nonneg i), if_pos (Int.ofNat_lt.2 hil), hrd, if_neg (show ¬ (capB pl i : Int) = 0 by omega), t1, hk, obind, if_pos (show (tx [ch (q % capB pl i)]).size + (tx suf).size ≤ 9223372036854775807 by rw [tx_size, tx_size, List.length_singleton]; omega), t2, w64 (n := ((q / capB pl i : Nat) : Int)) (Int.le_trans (by decide) (Int.natCast_nonneg _)) (Int.le_trans (Int.ofNat_le.2 hd) (by omega)), app_tx, e4]
    rfl
theorem boState {pl : List Int} {bl : List Blk} (hg : goodB pl bl = true) (q : Nat) (hq : q ≤ 1000000) : Ev (fun k => spec_boState.f k pl bl (q : Int)) (tx (stN pl pl.length q)) := by
  have h6 := (good_parts hg).1.2
  have h := boState_l0 hg pl.length q [] (Nat.le_refl _) hq (by simp; omega)
  rw [List.append_nil] at h
  unfold spec_boState.f
  rw [w64 (n := (pl.length : Int) - 1) (by omega) (by omega)]
  exact h
/-- The allowed states. -/
def freeL (pl : List Int) (bl : List Blk) : List Stt := (allB pl).filter (freeB bl)
theorem take_filter {p : Stt → Bool} {l : List Stt} {i : Nat} (h : i < l.length) : (l.take (i + 1)).filter p = if p l[i] = true then (l.take i).filter p ++ [l[i]] else (l.take i).filter p := by
  rw [List.take_succ_eq_append_getElem h, List.filter_append]
  by_cases c : p l[i] = true
  · rw [if_pos c, List.filter_cons_of_pos c, List.filter_nil]
  · rw [if_neg c, List.filter_cons_of_neg c, List.filter_nil, List.append_nil]
theorem boAll {pl : List Int} {bl : List Blk} (hg : goodB pl bl = true) : Ev (fun k => spec_boAll.f k pl bl) ((freeL pl bl).map tx) := by
  obtain ⟨hp1, hp2⟩ := prodB_le hg
  have hlen := all_len hg
  have hc := boCount pl bl (by have := (good_parts hg).1.2; omega)
  rw [hp2] at hc
  have go : ∀ d i, i + d = (allB pl).length → Ev (fun k => spec_boAll.l0 k ((((allB pl).take i).filter (freeB bl)).map tx) (i : Int) pl bl) ((freeL pl bl).map tx) := by
    intro d
    induction d with
    | zero =>
      intro i hi
      obtain rfl : i = (allB pl).length := by omega
      rw [List.take_length]
      refine ev_num hc (h := fun _ => some ((freeL pl bl).map tx)) (Ev.now _) (fun k hk => ?_)
      simp only [spec_boAll.l0]
      rw [hk, obind, if_neg (fun h => by have := Int.ofNat_lt.1 h; omega)]
      rfl
    | succ d ih =>
      intro i hi
      have hil : i < (allB pl).length := by omega
      have hs := boState hg i (by omega)
      have hst := stN_st hg i
      have hf := boFree pl bl (stN pl pl.length i) hg hst
      have hle : (((allB pl).take i).filter (freeB bl)).length ≤ i := by
        refine Nat.le_trans (List.length_filter_le _ _) ?_
        rw [List.length_take]
        omega
      refine ev_num3 hc hs hf (ih (i + 1) (by omega)) (fun k k1 k2 k3 => ?_)
      simp only [spec_boAll.l0]
      rw [k1, obind, if_pos (show (i : Int) < (prodB pl : Int) from Int.ofNat_lt.2 (by omega)), k2, obind, k3, obind, take_filter hil, all_get hg hil, succ64 (by omega)]
      by_cases c : freeB bl (stN pl pl.length i) = true
      · rw [if_pos c, if_pos c, if_pos (show ((((allB pl).take i).filter (freeB bl)).map tx).length < 8796093022208 by rw [List.length_map]; omega), List.map_append]
        rfl
      · rw [if_neg c, if_neg c]
  have h := go (allB pl).length 0 (Nat.zero_add _)
  rw [List.take_zero] at h
  unfold spec_boAll.f
  exact h

/-! ### The program's states -/
theorem st_l2 {pl : List Int} {bl : List Blk} (p : Nat) (hp : p ≤ 5) (s : Stt) (hs : s.length ≤ 100) (x12 : List Int) (x13 x14 : Int) (cur : List ByteArray) (x19 x20 : Int) (R : List ByteArray) : ∀ d r (acc : List Stt), r + d = p → acc.length + d ≤ 1000000 →
    Ev (fun k => impl_Bolts_states.l1 pl bl k (p : Int) ((acc ++ (List.range' r d).map (fun k => s ++ [ch k])).map tx) x12 x13 x14 cur x19 (wrap64 (x20 + 1))) R →
    Ev (fun k => impl_Bolts_states.l2 pl bl k (p : Int) (acc.map tx) (tx s) x12 x13 x14 cur x19 x20 (p : Int) (r : Int)) R := by
  intro d
  induction d with
  | zero =>
    intro r acc hr ha H
    rw [List.range'_zero, List.map_nil, List.append_nil] at H
    refine Ev.step (fun k => ?_) H
    simp only [impl_Bolts_states.l2]
    rw [if_neg (fun h => by have := Int.ofNat_lt.1 h; omega)]
  | succ d ih =>
    intro r acc hr ha H
    rw [List.range'_succ, List.map_cons] at H
    have h := ih (r + 1) (acc ++ [s ++ [ch r]]) (by omega) (by rw [List.length_append, List.length_singleton]; omega) (by
      rw [List.append_assoc]
      exact H)
    have e1 : (48 + ((r : Int) % 256)) % 256 = (48 + (r : Int)) % 256 := by omega
    have e2 := num_ch (r := r) (by omega)
    refine Ev.step (fun k => ?_) h
    simp only [impl_Bolts_states.l2]
    rw [if_pos (Int.ofNat_lt.2 (by omega)), obind, e1, e2, if_pos (show (tx s).size + (tx [ch r]).size ≤ 9223372036854775807 by rw [tx_size, tx_size, List.length_singleton]; omega), if_pos (show (acc.map tx).length < 8796093022208 by rw [List.length_map]; omega), app_tx, succ64 (by omega), List.map_append]
    rfl
theorem st_l1 {pl : List Int} {bl : List Blk} (p : Nat) (hp : p ≤ 5) (cur : List Stt) (hc : cur.length ≤ 100000) (hs : ∀ s ∈ cur, s.length ≤ 100) (x12 : List Int) (x13 x14 : Int) (R : List ByteArray) : ∀ d j (acc : List Stt), j + d = cur.length → acc.length ≤ 5 * j →
    Ev (fun k => impl_Bolts_states.l0 pl bl k ((acc ++ (cur.drop j).flatMap (fun s => (List.range p).map (fun k => s ++ [ch k]))).map tx) x12 x13 (wrap64 (x14 + 1))) R →
    Ev (fun k => impl_Bolts_states.l1 pl bl k (p : Int) (acc.map tx) x12 x13 x14 (cur.map tx) (cur.length : Int) (j : Int)) R := by
  intro d
  induction d with
  | zero =>
    intro j acc hj ha H
    rw [List.drop_eq_nil_of_le (by omega), List.flatMap_nil, List.append_nil] at H
    refine Ev.step (fun k => ?_) H
    simp only [impl_Bolts_states.l1]
    rw [if_neg (fun h => by have := Int.ofNat_lt.1 h; omega)]
  | succ d ih =>
    intro j acc hj ha H
    have hjl : j < cur.length := by omega
    rw [List.drop_eq_getElem_cons hjl, List.flatMap_cons] at H
    have h := ih (j + 1) (acc ++ (List.range p).map (fun k => cur[j] ++ [ch k])) (by omega) (by rw [List.length_append, List.length_map, List.length_range]; omega) (by
      rw [List.append_assoc]
      exact H)
    have h2 := st_l2 (pl := pl) (bl := bl) p hp cur[j] (hs _ (List.getElem_mem hjl)) x12 x13 x14 (cur.map tx) (cur.length : Int) (j : Int) R p 0 acc (Nat.zero_add _) (by omega) (by
      rw [← List.range_eq_range', succ64 (by omega)]
      exact h)
    refine Ev.step (fun k => ?_) h2
    simp only [impl_Bolts_states.l1]
    rw [if_pos (Int.ofNat_lt.2 hjl), if_pos (Int.natCast_nonneg _), if_pos (show (j : Int) < ((cur.map tx).length : Int) by rw [List.length_map]; exact Int.ofNat_lt.2 hjl), rdM hjl]
    rfl
/-! ### slices.DeleteFunc -/
theorem del_l0 {rule : Nat → ByteArray → Option Bool} {q : Stt → Bool} (L : List Stt) (hL : L.length ≤ 1000000) (hr : ∀ s ∈ L, Ev (fun k => rule k (tx s)) (!(q s))) : ∀ d i j (x : List ByteArray), j + d = L.length → i < j → x.length = L.length → x.take i = ((L.take j).filter q).map tx → x.drop j = (L.drop j).map tx →
    Ev (fun k => slices_DeleteFunc_string_string.l0 rule k x (i : Int) (j : Int)) ((L.filter q).map tx) := by
  intro d
  induction d with
  | zero =>
    intro i j x hj hij hx h1 h2
    obtain rfl : j = L.length := by omega
    rw [List.take_length] at h1
    refine Ev.step (f := fun _ => some ((L.filter q).map tx)) (fun k => ?_) (Ev.now _)
    simp only [slices_DeleteFunc_string_string.l0]
    rw [hx, if_neg (Int.lt_irrefl _), if_pos ⟨Int.natCast_nonneg i, Int.ofNat_lt.2 hij⟩, Int.toNat_natCast, h1]
  | succ d ih =>
    intro i j x hj hij hx h1 h2
    have hjl : j < L.length := by omega
    have hjx : j < x.length := by omega
    rw [List.drop_eq_getElem_cons hjx, List.drop_eq_getElem_cons hjl, List.map_cons, List.cons.injEq] at h2
    obtain ⟨h3, h4⟩ := h2
    have hrd : rdOf ByteArray.empty x (j : Int) = tx L[j] := by rw [rdS_get hjx, h3]
    have hq := hr _ (List.getElem_mem hjl)
    cases c : q L[j] with
    | false =>
      rw [c] at hq
      refine ev_num hq (ih i (j + 1) x (by omega) (by omega) hx (by rw [take_filter hjl, c, if_neg Bool.false_ne_true]; exact h1) h4) (fun k hk => ?_)
      simp only [slices_DeleteFunc_string_string.l0]
      rw [hx, if_pos (Int.ofNat_lt.2 hjl), if_pos (Int.natCast_nonneg _), hrd, hk, obind, if_pos (by rfl), succ64 (by omega)]
    | true =>
      rw [c] at hq
      refine ev_num hq (ih (i + 1) (j + 1) (x.set i (tx L[j])) (by omega) (by omega) (by rw [List.length_set]; exact hx) ?_ ?_) (fun k hk => ?_)
      · rw [take_filter hjl, c, if_pos rfl, List.map_append, ← h1, List.take_succ_eq_append_getElem (by rw [List.length_set]; omega), List.take_set_of_le (Nat.le_refl i), List.getElem_set_self]
        rfl
      · rw [← h4]
        exact List.drop_set_of_lt (by omega)
      · simp only [slices_DeleteFunc_string_string.l0]
        rw [hx, if_pos (Int.ofNat_lt.2 hjl), if_pos (Int.natCast_nonneg _), hrd, hk, obind, if_neg (by decide), if_pos ⟨Int.natCast_nonneg i, Int.ofNat_lt.2 (by omega)⟩, Int.toNat_natCast, succ64 (by omega), succ64 (by omega)]
theorem idx_l0 {rule : Nat → ByteArray → Option Bool} {q : Stt → Bool} (L : List Stt) (hL : L.length ≤ 1000000) (hr : ∀ s ∈ L, Ev (fun k => rule k (tx s)) (!(q s))) : ∀ d i, i + d = L.length → (∀ j (h : j < L.length), j < i → q L[j] = true) →
    ((∀ s ∈ L, q s = true) ∧ Ev (fun k => slices_IndexFunc_string_string.l0 rule k (L.map tx) (L.length : Int) (i : Int)) (-1)) ∨ (∃ (n : Nat) (h : n < L.length), q L[n] = false ∧ (∀ j (h : j < L.length), j < n → q L[j] = true) ∧ Ev (fun k => slices_IndexFunc_string_string.l0 rule k (L.map tx) (L.length : Int) (i : Int)) (n : Int)) := by
  intro d
  induction d with
  | zero =>
    intro i hi hall
    refine Or.inl ⟨fun s hs => ?_, Ev.step (f := fun _ => some (-1)) (fun k => ?_) (Ev.now _)⟩
    · obtain ⟨j, hj, rfl⟩ := List.getElem_of_mem hs
      exact hall j hj (by omega)
    · simp only [slices_IndexFunc_string_string.l0]
      rw [if_neg (fun h => by have := Int.ofNat_lt.1 h; omega)]
  | succ d ih =>
    intro i hi hall
    have hil : i < L.length := by omega
    have hq := hr _ (List.getElem_mem hil)
    have hm : (i : Int) < ((L.map tx).length : Int) := by rw [List.length_map]; exact Int.ofNat_lt.2 hil
    cases c : q L[i] with
    | false =>
      rw [c] at hq
      refine Or.inr ⟨i, hil, c, hall, ev_num hq (h := fun _ => some (i : Int)) (Ev.now _) (fun k hk => ?_)⟩
      simp only [slices_IndexFunc_string_string.l0]
      rw [if_pos (Int.ofNat_lt.2 hil), if_pos (Int.natCast_nonneg _), if_pos hm, rdM hil, hk, obind, if_pos (by rfl)]
    | true =>
      rw [c] at hq
      have step : ∀ R, Ev (fun k => slices_IndexFunc_string_string.l0 rule k (L.map tx) (L.length : Int) ((i + 1 : Nat) : Int)) R → Ev (fun k => slices_IndexFunc_string_string.l0 rule k (L.map tx) (L.length : Int) (i : Int)) R := fun R h => by
        refine ev_num hq h (fun k hk => ?_)
        simp only [slices_IndexFunc_string_string.l0]
        rw [if_pos (Int.ofNat_lt.2 hil), if_pos (Int.natCast_nonneg _), if_pos hm, rdM hil, hk, obind, if_neg (by decide), succ64 (by omega)]
      rcases ih (i + 1) (by omega) (fun j hj hji => by
        by_cases e : j = i
        · subst e; exact c
        · exact hall j hj (by omega)) with ⟨h1, h2⟩ | ⟨n, hn, h1, h2, h3⟩
      · exact Or.inl ⟨h1, step _ h2⟩
      · exact Or.inr ⟨n, hn, h1, h2, step _ h3⟩
theorem delFunc {rule : Nat → ByteArray → Option Bool} {q : Stt → Bool} (L : List Stt) (hL : L.length ≤ 1000000) (hr : ∀ s ∈ L, Ev (fun k => rule k (tx s)) (!(q s))) : Ev (fun k => slices_DeleteFunc_string_string.f rule k (L.map tx)) ((L.filter q).map tx) := by
  unfold slices_DeleteFunc_string_string.f slices_IndexFunc_string_string.f
  rcases idx_l0 L hL hr L.length 0 (Nat.zero_add _) (fun j _ h => absurd h (Nat.not_lt_zero j)) with ⟨h1, h2⟩ | ⟨n, hn, h1, h2, h3⟩
  · refine Ev.bind (a := (-1 : Int)) ?_ (Ev.congr (fun k => if_pos rfl) ?_)
    · rw [List.length_map]
      exact h2
    · rw [List.filter_eq_self.2 h1]
      exact Ev.now _
  · refine Ev.bind (a := (n : Int)) ?_ (Ev.congr (fun k => by rw [if_neg (show ¬ (n : Int) = -1 by omega), if_pos (show 0 < (L.map tx).length by rw [List.length_map]; omega), succ64 (by omega)]) ?_)
    · rw [List.length_map]
      exact h3
    · refine del_l0 L hL hr (L.length - (n + 1)) n (n + 1) (L.map tx) (by omega) (Nat.lt_succ_self n) (List.length_map _) ?_ (List.map_drop).symm
      rw [take_filter hn, h1, if_neg Bool.false_ne_true, ← List.map_take]
      congr 1
      refine (List.filter_eq_self.2 (fun s hs => ?_)).symm
      obtain ⟨j, hj, rfl⟩ := List.getElem_of_mem hs
      rw [List.length_take] at hj
      rw [List.getElem_take]
      exact h2 j (by omega) (by omega)
theorem states {pl : List Int} {bl : List Blk} (hg : goodB pl bl = true) : Ev (fun k => impl_Bolts_states.f k pl bl) ((freeL pl bl).map tx) := by
  obtain ⟨hp1, hp2⟩ := prodB_le hg
  have hlen := all_len hg
  have h6 := (good_parts hg).1.2
  have go : ∀ d i, i + d = pl.length → Ev (fun k => impl_Bolts_states.l0 pl bl k ((stL pl i).map tx) pl (pl.length : Int) (i : Int)) ((freeL pl bl).map tx) := by
    intro d
    induction d with
    | zero =>
      intro i hi
      obtain rfl : i = pl.length := by omega
      have h := delFunc (rule := impl_Bolts_states_1.rule pl bl) (q := freeB bl) (allB pl) (by omega) (fun s hs => by
        unfold impl_Bolts_states_1.rule
        exact Ev.bind (f := fun _ t => some (!t)) (allowed pl bl s hg (all_st hg s hs)) (Ev.now _))
      refine Ev.step (f := fun k => (slices_DeleteFunc_string_string.f (impl_Bolts_states_1.rule pl bl) k ((stL pl pl.length).map tx)).bind fun t => some t) (fun k => ?_) (Ev.bind (f := fun _ t => some t) h (Ev.now _))
      simp only [impl_Bolts_states.l0]
      rw [if_neg (Int.lt_irrefl _)]
    | succ d ih =>
      intro i hi
      have hil : i < pl.length := by omega
      obtain ⟨hp, hpe⟩ := cap_at hg hil
      have hl := stL_len hg i (by omega)
      have hsm := prod_small hg i (by omega)
      have h := st_l1 (pl := pl) (bl := bl) (capB pl i) (by omega) (stL pl i) (by omega) (fun s hs => by
        rw [stL_eq hg i (by omega)] at hs
        obtain ⟨q, _, rfl⟩ := List.mem_map.1 hs
        rw [stN_len]
        omega) pl (pl.length : Int) (i : Int) ((freeL pl bl).map tx) (stL pl i).length 0 [] (Nat.zero_add _) (Nat.zero_le _) (by
          rw [succ64 (by omega), List.drop_zero, List.nil_append]
          exact ih (i + 1) (by omega))
      refine Ev.step (fun k => ?_) h
      simp only [impl_Bolts_states.l0]
      rw [if_pos (Int.ofNat_lt.2 hil), if_pos (Int.natCast_nonneg _), if_pos (Int.ofNat_lt.2 hil), rdD, hpe, List.length_map]
      rfl
  unfold impl_Bolts_states.f
  exact go pl.length 0 (Nat.zero_add _)

/-! ### The parts -/
def clsB (pl : List Int) (bl : List Blk) (s t : Stt) : Bool := (foundB pl bl s).q.contains t
def partsB (pl : List Int) (bl : List Blk) : Nat := cnt (clsB pl bl) (freeL pl bl) (fun _ => false)
theorem free_ok {pl : List Int} {bl : List Blk} (hg : goodB pl bl = true) : ∀ s ∈ freeL pl bl, okS pl bl s := by
  intro s hs
  unfold freeL at hs
  rw [List.mem_filter] at hs
  exact ⟨all_st hg s hs.1, hs.2⟩
theorem free_len {pl : List Int} {bl : List Blk} (hg : goodB pl bl = true) : (freeL pl bl).length ≤ 1000 := by
  have := List.length_filter_le (freeB bl) (allB pl)
  have h := all_len hg
  have hp := (prodB_le hg).1
  unfold freeL
  omega
theorem contains_step (q : List Stt) {j : Nat} (hj : j < q.length) (g : Stt → Bool) : (fun s => (if s = q[j] then true else g s) || (q.drop (j + 1)).contains s) = (fun s => g s || (q.drop j).contains s) := by
  funext s
  rw [List.drop_eq_getElem_cons hj, List.contains_cons]
  by_cases h : s = q[j]
  · rw [if_pos h, beq_iff_eq.2 h]
    simp
  · rw [if_neg h, beq_eq_false_iff_ne.2 h, Bool.false_or]
theorem sp_l1 {pl : List Int} {bl : List Blk} (hg : goodB pl bl = true) (q : List Stt) (hq : q.length ≤ 1000) (hqs : ∀ s ∈ q, isStB pl s = true) (LT : List ByteArray) (c len idx : Int) (R : Int × Bool) : ∀ d j (acc : List Bool) (g : Stt → Bool), j + d = q.length → acc.length = prodB pl → (∀ s, isStB pl s = true → acc.getD (numB pl s) false = g s) →
    (∀ acc' : List Bool, acc'.length = prodB pl → (∀ s, isStB pl s = true → acc'.getD (numB pl s) false = (g s || (q.drop j).contains s)) → Ev (fun k => spec_PartsOfBolts.l0 k acc' c LT len (wrap64 (idx + 1)) pl bl) R) →
    Ev (fun k => spec_PartsOfBolts.l1 k acc c LT len idx (q.map tx) (q.length : Int) (j : Int) pl bl) R := by
  intro d
  induction d with
  | zero =>
    intro j acc g hj hl hv H
    refine Ev.step (fun k => ?_) (H acc hl (fun s hs => by rw [hv s hs, List.drop_eq_nil_of_le (by omega)]; simp))
    simp only [spec_PartsOfBolts.l1]
    rw [if_neg (show ¬ (j : Int) < (q.length : Int) from fun h => by have := Int.ofNat_lt.1 h; omega)]
  | succ d ih =>
    intro j acc g hj hl hv H
    have hjl : j < q.length := by omega
    have hs := hqs _ (List.getElem_mem hjl)
    have hlt := numB_lt hg hs
    have hn := boNumber pl bl q[j] hg hs
    have e := contains_step q hjl g
    have h := ih (j + 1) (acc.set (numB pl q[j]) true) (fun s => if s = q[j] then true else g s) (by omega) (by rw [List.length_set]; exact hl) (fun s hs2 => by
      rw [getD_setB (by omega)]
      by_cases h : s = q[j]
      · rw [if_pos (by rw [h]), if_pos h]
      · rw [if_neg (fun h2 => h (numB_inj hg hs2 hs h2.symm)), if_neg h]
        exact hv s hs2) (fun acc' h1 h2 => H acc' h1 (fun s hs2 => by rw [h2 s hs2]; exact congrFun e s))
    refine ev_num hn h (fun k hk => ?_)
    simp only [spec_PartsOfBolts.l1]
    rw [if_pos (Int.ofNat_lt.2 hjl), if_pos (Int.natCast_nonneg _), if_pos (show (j : Int) < ((q.map tx).length : Int) by rw [List.length_map]; exact Int.ofNat_lt.2 hjl), rdM hjl, hk, obind, if_pos (Int.natCast_nonneg _), if_pos (show ((numB pl q[j] : Nat) : Int) < (acc.length : Int) from Int.ofNat_lt.2 (by omega)), Int.toNat_natCast, succ64 (by omega)]
theorem sp_l0 {pl : List Int} {bl : List Blk} (hg : goodB pl bl = true) (L : List Stt) (hL : L.length ≤ 1000) (hok : ∀ s ∈ L, okS pl bl s) : ∀ d i (acc : List Bool) (g : Stt → Bool) (c : Nat), i + d = L.length → acc.length = prodB pl → c ≤ i → (∀ s, isStB pl s = true → acc.getD (numB pl s) false = g s) →
    Ev (fun k => spec_PartsOfBolts.l0 k acc (c : Int) (L.map tx) (L.length : Int) (i : Int) pl bl) (((c + cnt (clsB pl bl) (L.drop i) g : Nat) : Int), true) := by
  obtain ⟨hp1, hp2⟩ := prodB_le hg
  intro d
  induction d with
  | zero =>
    intro i acc g c hi hl hc hv
    rw [List.drop_eq_nil_of_le (by omega)]
    refine Ev.step (f := fun _ => some ((c : Int), true)) (fun k => ?_) (Ev.now _)
    simp only [spec_PartsOfBolts.l0]
    rw [if_neg (fun h => by have := Int.ofNat_lt.1 h; omega)]
  | succ d ih =>
    intro i acc g c hi hl hc hv
    have hil : i < L.length := by omega
    have ho := hok _ (List.getElem_mem hil)
    have hlt := numB_lt hg ho.1
    have hn := boNumber pl bl L[i] hg ho.1
    have hvi := hv _ ho.1
    have hm : (i : Int) < ((L.map tx).length : Int) := by rw [List.length_map]; exact Int.ofNat_lt.2 hil
    have hnl : ((numB pl L[i] : Nat) : Int) < (acc.length : Int) := Int.ofNat_lt.2 (by omega)
    rw [List.drop_eq_getElem_cons hil]
    unfold cnt
    by_cases hs : g L[i] = true
    · rw [if_pos hs]
      rw [hs] at hvi
      refine ev_num hn (ih (i + 1) acc g c (by omega) hl (by omega) hv) (fun k hk => ?_)
      simp only [spec_PartsOfBolts.l0]
      rw [if_pos (Int.ofNat_lt.2 hil), if_pos (Int.natCast_nonneg _), if_pos hm, rdM hil, hk, obind, if_pos (Int.natCast_nonneg _), if_pos hnl, rdB, hvi, if_pos rfl, succ64 (by omega)]
    · rw [if_neg hs]
      rw [Bool.eq_false_iff.2 hs] at hvi
      obtain ⟨F, hF, e⟩ := boFar hg ho
      obtain ⟨hI, hG⟩ := found_good (setup hg) ho
      have hI : Inv (stepB pl bl) L[i] (foundB pl bl L[i]) (foundB pl bl L[i]).q.length := hI
      have hG : GoodS (okS pl bl) (foundB pl bl L[i]) := hG
      have hql := hG.len (setup hg) hI.nodup
      have h1 := sp_l1 hg (foundB pl bl L[i]).q (by omega) (fun s h => (hG.ok s h).1) (L.map tx) ((c + 1 : Nat) : Int) (L.length : Int) (i : Int) ((((c + 1) + cnt (clsB pl bl) (L.drop (i + 1)) (fun t => g t || clsB pl bl L[i] t) : Nat) : Int), true) (foundB pl bl L[i]).q.length 0 acc g (Nat.zero_add _) hl hv (fun acc' ha hv2 => by
        rw [succ64 (by omega)]
        exact ih (i + 1) acc' (fun t => g t || clsB pl bl L[i] t) (c + 1) (by omega) ha (by omega) hv2)
      rw [show c + (cnt (clsB pl bl) (L.drop (i + 1)) (fun t => g t || clsB pl bl L[i] t) + 1) = (c + 1) + cnt (clsB pl bl) (L.drop (i + 1)) (fun t => g t || clsB pl bl L[i] t) by omega]
      refine ev_num3 hn e (Ev.now ()) h1 (fun k k1 k2 _ => ?_)
      simp only [spec_PartsOfBolts.l0]
      rw [if_pos (Int.ofNat_lt.2 hil), if_pos (Int.natCast_nonneg _), if_pos hm, rdM hil, k1, obind, if_pos (Int.natCast_nonneg _), if_pos hnl, rdB, hvi, if_neg Bool.false_ne_true, k2, obind, List.length_map, succ64 (n := c) (by omega)]
      rfl
theorem po_l0 {pl : List Int} {bl : List Blk} (hg : goodB pl bl = true) (L : List Stt) (hL : L.length ≤ 1000) (hok : ∀ s ∈ L, okS pl bl s) : ∀ d i (g : Stt → Bool) (c n : Nat), i + d = L.length → n ≤ i → c ≤ i * 1024 →
    Ev (fun k => impl_partsOf.l0 (impl_PartsOfBolts.srch pl bl) (L.map tx) k (mB g) c (n : Int) (i : Int)) ((n + cnt (clsB pl bl) (L.drop i) g : Nat) : Int) := by
  obtain ⟨hp1, hp2⟩ := prodB_le hg
  intro d
  induction d with
  | zero =>
    intro i g c n hi hn hc
    rw [List.drop_eq_nil_of_le (by omega)]
    refine Ev.step (f := fun _ => some (n : Int)) (fun k => ?_) (Ev.now _)
    simp only [impl_partsOf.l0]
    rw [List.length_map, if_neg (fun h => by have := Int.ofNat_lt.1 h; omega)]
  | succ d ih =>
    intro i g c n hi hn hc
    have hil : i < L.length := by omega
    have ho := hok _ (List.getElem_mem hil)
    have hsz := ok_small hg ho
    rw [List.drop_eq_getElem_cons hil]
    unfold cnt
    by_cases hs : g L[i] = true
    · rw [if_pos hs]
      refine Ev.step (fun k => ?_) (ih (i + 1) g c n (by omega) (by omega) (Nat.le_trans hc (Nat.mul_le_mul_right 1024 (Nat.le_succ i))))
      simp only [impl_partsOf.l0]
      rw [List.length_map, if_pos (Int.ofNat_lt.2 hil), if_pos (Int.natCast_nonneg _), rdM hil, if_pos hsz, mB_tx, if_pos hs, succ64 (by omega)]
    · rw [if_neg hs]
      have hsr : Ev (fun k => impl_PartsOfBolts.srch pl bl k (tx L[i])) ((foundB pl bl L[i]).q.map tx) := by
        unfold impl_PartsOfBolts.srch
        exact Ev.bind (f := fun _ (q : List ByteArray × (ByteArray → Option Int) × (ByteArray → Option Int)) => some q.1) (search_run hg L[i] ho) (Ev.now _)
      obtain ⟨hI, hG⟩ := found_good (setup hg) ho
      have hI : Inv (stepB pl bl) L[i] (foundB pl bl L[i]) (foundB pl bl L[i]).q.length := hI
      have hG : GoodS (okS pl bl) (foundB pl bl L[i]) := hG
      have hql := hG.len (setup hg) hI.nodup
      have hqs : ∀ s ∈ (foundB pl bl L[i]).q, (tx s).size ≤ maxLen := fun s h => ok_small hg (hG.ok s h)
      have h1 := po_l1 (impl_PartsOfBolts.srch pl bl) (L.map tx) (foundB pl bl L[i]).q (by omega) hqs ((n + 1 : Nat) : Int) (i : Int) (((n + 1) + cnt (clsB pl bl) (L.drop (i + 1)) (fun t => g t || clsB pl bl L[i] t) : Nat) : Int) (foundB pl bl L[i]).q.length 0 c g (Nat.zero_add _) (ar_p hc (by omega) (by omega)) (by
        rw [List.drop_zero, succ64 (by omega)]
        exact ih (i + 1) _ (c + (foundB pl bl L[i]).q.length) (n + 1) (by omega) (by omega) (ar_q hc (by omega)))
      rw [show n + (cnt (clsB pl bl) (L.drop (i + 1)) (fun t => g t || clsB pl bl L[i] t) + 1) = (n + 1) + cnt (clsB pl bl) (L.drop (i + 1)) (fun t => g t || clsB pl bl L[i] t) by omega]
      refine Ev.step (f := fun k => (impl_PartsOfBolts.srch pl bl k (tx L[i])).bind fun ts => impl_partsOf.l1 (impl_PartsOfBolts.srch pl bl) (L.map tx) k ts (mB g) c ((n + 1 : Nat) : Int) (i : Int) 0) (fun k => ?_) (Ev.bind hsr h1)
      simp only [impl_partsOf.l0]
      rw [List.length_map, if_pos (Int.ofNat_lt.2 hil), if_pos (Int.natCast_nonneg _), rdM hil, if_pos hsz, mB_tx, if_neg hs, succ64 (n := n) (by omega)]
def resB (pl : List Int) (bl : List Blk) : Int × Bool := if goodB pl bl = true then ((partsB pl bl : Nat), true) else (0, false)
theorem spec_parts (pl : List Int) (bl : List Blk) (hl : pl.length ≤ 1048576) (hb : bl.length ≤ 1048576) : Ev (fun k => spec_PartsOfBolts.f k pl bl) (resB pl bl) := by
  unfold spec_PartsOfBolts.f resB
  refine Ev.bind (boGood pl bl hl hb) ?_
  cases hg : goodB pl bl with
  | false => exact Ev.congr (fun k => by rw [if_neg Bool.false_ne_true, if_neg Bool.false_ne_true]) (Ev.now _)
  | true =>
    obtain ⟨hp1, hp2⟩ := prodB_le hg
    have hc := boCount pl bl (by omega)
    rw [hp2] at hc
    have hfl := free_len hg
    have h := sp_l0 hg (freeL pl bl) hfl (free_ok hg) (freeL pl bl).length 0 (List.replicate (prodB pl) false) (fun _ => false) 0 (Nat.zero_add _) (List.length_replicate ..) (Nat.le_refl _) (fun s hs => by
      rw [List.getD_eq_getElem?_getD, List.getElem?_replicate, if_pos (numB_lt hg hs)]
      rfl)
    rw [List.drop_zero, Nat.zero_add] at h
    rw [if_pos rfl]
    refine Ev.congr (fun k => by rw [if_pos rfl]) (Ev.bind hc ?_)
    refine Ev.congr (fun k => by rw [if_pos (Int.natCast_nonneg _), Int.toNat_natCast, if_pos (by omega)]) (Ev.bind (boAll hg) ?_)
    refine Ev.congr (fun k => by rw [List.length_map]) ?_
    exact h
theorem impl_parts (pl : List Int) (bl : List Blk) (hl : pl.length ≤ 1048576) (hb : bl.length ≤ 1048576) : Ev (fun k => impl_PartsOfBolts.f k pl bl) (resB pl bl) := by
  unfold impl_PartsOfBolts.f resB
  refine Ev.bind (areBolts pl bl hl hb) ?_
  cases hg : goodB pl bl with
  | false => exact Ev.congr (fun k => by rw [if_neg Bool.false_ne_true, if_neg Bool.false_ne_true]) (Ev.now _)
  | true =>
    have hfl := free_len hg
    have h := po_l0 hg (freeL pl bl) hfl (free_ok hg) (freeL pl bl).length 0 (fun _ => false) 0 0 (Nat.zero_add _) (Nat.le_refl _) (Nat.zero_le _)
    rw [List.drop_zero, Nat.zero_add] at h
    rw [if_pos rfl]
    exact Ev.congr (fun k => by rw [if_pos rfl]) (Ev.bind (states hg) (Ev.bind (f := fun _ t => some (t, true)) h (Ev.now _)))
end Go.Proofs.Ytehhfcbhoaocdaa.Lem
namespace Go.Proofs.Ytehhfcbhoaocdaa.Pure
open Go.RowKit Go.Proofs.Ytehhfcbhoaocdaa.Lem Go.Proofs.Ytehhfcbhoaocdaa.PP Go.Proofs.YtehhfcbhoaocdaaW.PrintWords Go.Proofs.YtehhfcbhoaocdaaW.PrintLast Go.Proofs.YtehhfcbhoaocdaaW.PrintMore

theorem FnExactPartsOfBolts : laws_FnExactPartsOfBolts.Pure := by
  intro pl bl hl _ hb
  obtain ⟨t, ht, hc⟩ := szBolts pl bl hl hb
  have key : Ev (fun k => laws_FnExactPartsOfBolts.f k pl bl) true := by
    unfold laws_FnExactPartsOfBolts.f
    refine Ev.congr (fun k => by rw [ht, obind]) ?_
    by_cases c1 : t < 0
    · exact Ev.congr (fun k => if_pos c1) (Ev.now _)
    have hh := hc.resolve_left c1
    have hb2 : (bl.map cp).length ≤ 1048576 := by rw [List.length_map]; exact hh.2
    have e1 := spec_parts pl (bl.map cp) hh.1 hb2
    have e2 := impl_parts pl (bl.map cp) hh.1 hb2
    refine Ev.congr (fun k => if_neg c1) (Ev.bind (toBolts pl bl hh.1 hh.2) (Ev.bind e1 (Ev.bind (toBolts pl bl hh.1 hh.2) (Ev.bind e2 ?_))))
    refine Ev.congr (fun k => by rw [if_pos rfl, bne_self_eq_false]) ?_
    refine Ev.step (fun k => by simp only [laws_FnExactPartsOfBolts.j0]; rw [if_neg Bool.false_ne_true]) (Ev.bind (toBolts pl bl hh.1 hh.2) ?_)
    exact Ev.bind (eqBolts pl (bl.map cp) hh.1 hb2) (Ev.congr (fun k => if_pos rfl) (Ev.now _))
  obtain ⟨K, h⟩ := key
  exact ⟨K, h K (Nat.le_refl _)⟩
end Go.Proofs.Ytehhfcbhoaocdaa.Pure
