/-
  Moves of one ring or of two: the one move that leads nearer, lists of such moves, and what the program makes of them.
-/
import Derived.Test.YtppbohghongfmaaDoorLemD8N
import Derived.Sort.Walk0
namespace Go.Proofs.YtppbohghongfmaaDoor.Lem
open Go.RowKit Go.Proofs.YtppbohghongfmaaDoor.PN Go.Proofs.YtppbohghongfmaaDoorW.PrintWords Go.Proofs.YtppbohghongfmaaDoorW.PrintLast Go.Proofs.YtppbohghongfmaaDoorW.PrintMore Go.Proofs.YtppbohghongfmaaDoor.Ring Go.Proofs.YtppbohghongfmaaDoor.Bfs
set_option linter.unusedVariables false
set_option linter.unusedSimpArgs false

theorem toL_eq {a b : ByteArray} : a.toList = b.toList ↔ a = b := by
  rw [Go.Lib.toList_data, Go.Lib.toList_data]
  exact ⟨fun h => ba_ext h, fun h => by rw [h]⟩
theorem rd_get {l : List Int} {i : Nat} (h : i < l.length) : rd l (i : Int) = l[i] := by
  show l.getD i 0 = l[i]
  simp [List.getD, h]
theorem tx_inj {a b : List UInt8} : tx a = tx b ↔ a = b := ⟨fun h => by rw [← tx_data a, h, tx_data], fun h => by rw [h]⟩
theorem near_mk {l : List UInt8} (h2 : 2 ≤ l.length) (ho : l.all okc = true) {k : Int} (hk : k ∈ mvP l) : near8 (num l) (num (mkP l k)) := by
  refine nbr_near h2 (num_lt l) ?_
  unfold nbr
  rw [stOf_num l ho]
  exact List.mem_map.2 ⟨k, hk, rfl⟩
theorem mk_lt (l : List UInt8) (k : Int) : num (mkP l k) < 2 ^ l.length := by
  have := num_lt (mkP l k)
  rw [mkP_length] at this
  exact this
theorem two_apart {l : List UInt8} (h2 : 2 ≤ l.length) (ho : l.all okc = true) {k : Int} (hk : k ∈ mvP l) : (num (mkP l k) + 2 = num l ∨ num l + 2 = num (mkP l k)) ↔ k = -1 := by
  rcases mem_mvP.1 hk with ⟨rfl, he⟩ | ⟨j, rfl, hj, hc⟩
  · match l, h2, ho, he with
    | c :: d :: m, _, ho, he =>
      simp only [List.getElem?_cons_zero, List.getElem?_cons_succ, Option.some.injEq] at he
      subst he
      simp only [List.all_cons, Bool.and_eq_true] at ho
      have := move_pair (l := m) ho.1
      have e : mkP (c :: c :: m) (-1) = flipAt (flipAt (c :: c :: m) 0) 1 := by unfold mkP; rw [if_pos rfl]
      rw [e]
      refine ⟨fun _ => rfl, fun _ => ?_⟩
      rcases this with ⟨_, h⟩ | ⟨_, h⟩ | ⟨_, h⟩ | ⟨_, h⟩ <;> omega
  · have e : mkP l ((j : Nat) : Int) = flipAt l j := by
      unfold mkP
      rw [if_neg (by omega), Int.toNat_natCast]
    rw [e]
    have hone : num (flipAt l j) = num l + 1 ∨ num (flipAt l j) + 1 = num l := by
      rcases Nat.eq_zero_or_pos j with rfl | hp
      · match l, h2, ho with
        | c :: m, _, ho =>
          simp only [List.all_cons, Bool.and_eq_true] at ho
          rcases move_zero (l := m) ho.1 with ⟨_, h⟩ | ⟨_, h⟩
          · exact .inl h
          · exact .inr h
      · rcases move_other l j ho hp hj hc with ⟨_, h⟩ | ⟨_, h⟩
        · exact .inl h
        · exact .inr h
    exact ⟨fun h => by omega, fun h => by omega⟩
/-- The one move that leads nearer to s. -/
theorem only_move {s : Nat} {l : List UInt8} (h2 : 2 ≤ l.length) (ho : l.all okc = true) (hs : s < 2 ^ l.length) (hne : num l ≠ s) : ∃ k, k ∈ mvP l ∧ D8 s (num (mkP l k)) + 1 = D8 s (num l) ∧ ∀ k' ∈ mvP l, D8 s (num (mkP l k')) + 1 = D8 s (num l) → k' = k := by
  obtain ⟨hu, hd, hr⟩ := D8_down hne
  generalize dn8 s (num l) = u at hu hd hr
  have hn := num_lt l
  have hur : u < 2 ^ l.length := by omega
  have hm := nbr_of_near h2 hn hur (near8_symm hu)
  unfold nbr at hm
  rw [stOf_num l ho] at hm
  obtain ⟨k, hk, rfl⟩ := List.mem_map.1 hm
  refine ⟨k, hk, hd, fun k' hk' hd' => ?_⟩
  have e := D8_uniq (near8_symm (near_mk h2 ho hk')) hd' hu hd
  exact mkP_inj h2 ho hk' hk (num_inj (mkP_ok ho k') (mkP_ok ho k) (by rw [mkP_length, mkP_length]) e)
/-- A list of moves, each of which leads nearer to s, as far as s. -/
inductive Leads (s : Nat) : List UInt8 → List Int → Prop
  | nil {l : List UInt8} : num l = s → Leads s l []
  | cons {l : List UInt8} {k : Int} {ks : List Int} : k ∈ mvP l → D8 s (num (mkP l k)) + 1 = D8 s (num l) → Leads s (mkP l k) ks → Leads s l (k :: ks)
theorem leads {r s : Nat} (h2 : 2 ≤ r) (hs : s < 2 ^ r) : ∀ (n : Nat) (l : List UInt8), l.length = r → l.all okc = true → D8 s (num l) = n → ∃ ks, Leads s l ks
  | 0, l, hl, ho, h => ⟨[], .nil (D8_zero h)⟩
  | n + 1, l, hl, ho, h => by
    have hne : num l ≠ s := fun e => by rw [e, D8_self] at h; cases h
    obtain ⟨k, hk, hd, _⟩ := only_move (s := s) (by omega) ho (hl ▸ hs) hne
    obtain ⟨ks, hks⟩ := leads h2 hs n (mkP l k) (by rw [mkP_length, hl]) (mkP_ok ho k) (by omega)
    exact ⟨k :: ks, .cons hk hd hks⟩
theorem Leads.len {s : Nat} {l : List UInt8} {ks : List Int} (h : Leads s l ks) : ks.length = D8 s (num l) := by
  induction h with
  | nil h => rw [h, D8_self]; rfl
  | cons _ hd _ ih => rw [List.length_cons, ih]; exact hd
theorem Leads.spare {s : Nat} {l : List UInt8} {ks : List Int} (h : Leads s l ks) : 2 ≤ l.length → l.all okc = true → (num l - s) + (s - num l) = ks.length + ks.count (-1) := by
  induction h with
  | nil h =>
    intro _ _
    rw [h]
    simp
  | @cons l k ks hk hd _ ih =>
    intro h2 ho
    have hn := near_mk h2 ho hk
    have h := D8_spare (near8_symm hn) hd
    rw [ih (by rw [mkP_length]; exact h2) (mkP_ok ho k)] at h
    rw [h, List.length_cons, List.count_cons]
    have e := two_apart h2 ho hk
    by_cases c : k = -1
    · rw [if_pos (e.2 c), if_pos (by rw [c]; rfl)]
      omega
    · rw [if_neg (fun h => c (e.1 h)), if_neg (by simpa using c)]
      omega
/-- What a list of moves makes of a state. -/
def playP : List UInt8 → List Int → Option (List UInt8)
  | l, [] => some l
  | l, k :: ks => if k ∈ mvP l then playP (mkP l k) ks else none
theorem Leads.play {s : Nat} {l : List UInt8} {ks : List Int} (h : Leads s l ks) : ∃ m, playP l ks = some m ∧ num m = s ∧ m.length = l.length ∧ (l.all okc = true → m.all okc = true) := by
  induction h with
  | @nil l h => exact ⟨l, rfl, h, rfl, fun h => h⟩
  | @cons l k ks hk hd _ ih =>
    obtain ⟨m, h1, h2, h3, h4⟩ := ih
    refine ⟨m, ?_, h2, by rw [h3, mkP_length], fun ho => h4 (mkP_ok ho k)⟩
    unfold playP
    rw [if_pos hk]
    exact h1
/-- What is known of the distances that a search has found. -/
structure FarT (r s : Nat) (F : List Int) : Prop where
  len : F.length = 2 ^ r
  at_ : ∀ n : Nat, n < 2 ^ r → rd F (n : Int) = ((D8 s n : Nat) : Int)
theorem FarT.cond {r s : Nat} {F : List Int} (f : FarT r s F) (hr : r ≤ 12) (hs : s < 2 ^ r) {a b : Nat} (ha : a < 2 ^ r) (hb : b < 2 ^ r) : (rd F (a : Int) = wrap64 (rd F (b : Int) - 1)) ↔ D8 s a + 1 = D8 s b := by
  have h4096 := pow_le12 hr
  have h1 := D8_top s a
  have h2 := D8_top s b
  rw [f.at_ a ha, f.at_ b hb, w64 (by omega) (by omega)]
  omega
theorem isSt_tx {l : List UInt8} (h2 : 2 ≤ l.length) (h12 : l.length ≤ 12) (ho : l.all okc = true) : isSt (tx l).data.toList = true := by
  rw [tx_data]
  unfold isSt
  rw [ho, decide_eq_true (by omega), decide_eq_true (by omega)]
  rfl
section
variable {r s : Nat} {F : List Int} {b l : List UInt8} {out : List Int} {k0 : Int} {i0 : Nat}
theorem first_l1 (h2 : 2 ≤ r) (hr : r ≤ 12) (hs : s < 2 ^ r) (f : FarT r s F) (bs : ByteArray) (hl : l.length = r) (ho : l.all okc = true) (hx : out.length ≤ 100000) (hi : i0 < (mvP l).length) (hk0 : (mvP l)[i0] = k0) (hgo : D8 s (num (mkP l k0)) + 1 = D8 s (num l))
    (hone : ∀ k' ∈ mvP l, D8 s (num (mkP l k')) + 1 = D8 s (num l) → k' = k0) {R : List Int × Bool} (hR : Ev (fun k => impl_FirstPairMoves.l0 k (tx (mkP l k0)) bs F (out ++ [k0])) R) :
    ∀ d j, j + d = i0 → Ev (fun k => impl_FirstPairMoves.l1 k (tx l) bs F out (mvP l) ((mvP l).length : Int) (j : Int)) R := by
  have hml := mvP_len l
  intro d
  induction d with
  | zero =>
    intro j hj
    obtain rfl : j = i0 := by omega
    have hmem : k0 ∈ mvP l := hk0 ▸ List.getElem_mem hi
    have n1 := number (tx (mkP l k0)) (isSt_tx (by rw [mkP_length]; omega) (by rw [mkP_length]; omega) (mkP_ok ho k0))
    have n2 := number (tx l) (isSt_tx (by omega) (by omega) ho)
    rw [tx_data] at n1 n2
    have hp := paired l (by omega) (by omega) ho k0 hmem
    have hrd : rd (mvP l) ((j : Nat) : Int) = k0 := by rw [rd_get hi]; exact hk0
    have b1 : num (mkP l k0) < 2 ^ r := by rw [← hl]; exact mk_lt l k0
    have b2 : num l < 2 ^ r := by rw [← hl]; exact num_lt l
    refine ev_num2 n1 n2 hR (fun k hk1 hk2 => ?_)
    simp only [impl_FirstPairMoves.l1]
    rw [if_pos (Int.ofNat_lt.2 hi), if_pos (Int.natCast_nonneg _), if_pos (Int.ofNat_lt.2 hi), hrd, hp, obind, hk1, obind, if_pos (Int.natCast_nonneg _), f.len, if_pos (Int.ofNat_lt.2 b1), hk2, obind, if_pos (Int.natCast_nonneg _), if_pos (Int.ofNat_lt.2 b2), if_pos ((f.cond hr hs b1 b2).2 hgo), if_pos (by omega)]
  | succ d ih =>
    intro j hj
    have hjl : j < (mvP l).length := by omega
    obtain ⟨m, hm⟩ : ∃ m, m = (mvP l)[j] := ⟨_, rfl⟩
    have hmem : m ∈ mvP l := hm ▸ List.getElem_mem hjl
    have hne : ¬ D8 s (num (mkP l m)) + 1 = D8 s (num l) := fun h => by
      have e := hone m hmem h
      rw [hm, ← hk0] at e
      have := (List.getElem_inj (mvP_nodup l)).1 e
      omega
    have n1 := number (tx (mkP l m)) (isSt_tx (by rw [mkP_length]; omega) (by rw [mkP_length]; omega) (mkP_ok ho m))
    have n2 := number (tx l) (isSt_tx (by omega) (by omega) ho)
    rw [tx_data] at n1 n2
    have hp := paired l (by omega) (by omega) ho m hmem
    have hrd : rd (mvP l) ((j : Nat) : Int) = m := by rw [rd_get hjl]; exact hm.symm
    have b1 : num (mkP l m) < 2 ^ r := by rw [← hl]; exact mk_lt l m
    have b2 : num l < 2 ^ r := by rw [← hl]; exact num_lt l
    refine ev_num2 n1 n2 (ih (j + 1) (by omega)) (fun k hk1 hk2 => ?_)
    simp only [impl_FirstPairMoves.l1]
    rw [if_pos (Int.ofNat_lt.2 hjl), if_pos (Int.natCast_nonneg _), if_pos (Int.ofNat_lt.2 hjl), hrd, hp, obind, hk1, obind, if_pos (Int.natCast_nonneg _), f.len, if_pos (Int.ofNat_lt.2 b1), hk2, obind, if_pos (Int.natCast_nonneg _), if_pos (Int.ofNat_lt.2 b2), if_neg (fun h => hne ((f.cond hr hs b1 b2).1 h)), succ64 (by omega)]
theorem twFirst_l1 (h2 : 2 ≤ r) (hr : r ≤ 12) (hs : s < 2 ^ r) (f : FarT r s F) (bs : ByteArray) (hl : l.length = r) (ho : l.all okc = true) (hx : out.length ≤ 100000) (hi : i0 < (mvP l).length) (hk0 : (mvP l)[i0] = k0) (hgo : D8 s (num (mkP l k0)) + 1 = D8 s (num l))
    (hone : ∀ k' ∈ mvP l, D8 s (num (mkP l k')) + 1 = D8 s (num l) → k' = k0) {R : List Int} (hR : Ev (fun k => spec_twFirst.l0 k (tx (mkP l k0)) bs F (out ++ [k0])) R) :
    ∀ d j, j + d = i0 → Ev (fun k => spec_twFirst.l1 k (tx l) bs F out (mvP l) ((mvP l).length : Int) (j : Int)) R := by
  have hml := mvP_len l
  intro d
  induction d with
  | zero =>
    intro j hj
    obtain rfl : j = i0 := by omega
    have hmem : k0 ∈ mvP l := hk0 ▸ List.getElem_mem hi
    have n1 := riNumber (tx (mkP l k0)) (by rw [tx_data, mkP_length]; omega)
    have n2 := riNumber (tx l) (by rw [tx_data]; omega)
    rw [tx_data] at n1 n2
    have hp := twMake l (by omega) (by omega) ho k0 hmem
    have hrd : rd (mvP l) ((j : Nat) : Int) = k0 := by rw [rd_get hi]; exact hk0
    have b1 : num (mkP l k0) < 2 ^ r := by rw [← hl]; exact mk_lt l k0
    have b2 : num l < 2 ^ r := by rw [← hl]; exact num_lt l
    refine ev_num2 n1 n2 hR (fun k hk1 hk2 => ?_)
    simp only [spec_twFirst.l1]
    rw [if_pos (Int.ofNat_lt.2 hi), if_pos (Int.natCast_nonneg _), if_pos (Int.ofNat_lt.2 hi), hrd, hp, obind, hk1, obind, if_pos (Int.natCast_nonneg _), f.len, if_pos (Int.ofNat_lt.2 b1), hk2, obind, if_pos (Int.natCast_nonneg _), if_pos (Int.ofNat_lt.2 b2), if_pos ((f.cond hr hs b1 b2).2 hgo), if_pos (by omega)]
  | succ d ih =>
    intro j hj
    have hjl : j < (mvP l).length := by omega
    obtain ⟨m, hm⟩ : ∃ m, m = (mvP l)[j] := ⟨_, rfl⟩
    have hmem : m ∈ mvP l := hm ▸ List.getElem_mem hjl
    have hne : ¬ D8 s (num (mkP l m)) + 1 = D8 s (num l) := fun h => by
      have e := hone m hmem h
      rw [hm, ← hk0] at e
      have := (List.getElem_inj (mvP_nodup l)).1 e
      omega
    have n1 := riNumber (tx (mkP l m)) (by rw [tx_data, mkP_length]; omega)
    have n2 := riNumber (tx l) (by rw [tx_data]; omega)
    rw [tx_data] at n1 n2
    have hp := twMake l (by omega) (by omega) ho m hmem
    have hrd : rd (mvP l) ((j : Nat) : Int) = m := by rw [rd_get hjl]; exact hm.symm
    have b1 : num (mkP l m) < 2 ^ r := by rw [← hl]; exact mk_lt l m
    have b2 : num l < 2 ^ r := by rw [← hl]; exact num_lt l
    refine ev_num2 n1 n2 (ih (j + 1) (by omega)) (fun k hk1 hk2 => ?_)
    simp only [spec_twFirst.l1]
    rw [if_pos (Int.ofNat_lt.2 hjl), if_pos (Int.natCast_nonneg _), if_pos (Int.ofNat_lt.2 hjl), hrd, hp, obind, hk1, obind, if_pos (Int.natCast_nonneg _), f.len, if_pos (Int.ofNat_lt.2 b1), hk2, obind, if_pos (Int.natCast_nonneg _), if_pos (Int.ofNat_lt.2 b2), if_neg (fun h => hne ((f.cond hr hs b1 b2).1 h)), succ64 (by omega)]
end
theorem Leads.first {r s : Nat} (h2 : 2 ≤ r) (hr : r ≤ 12) (hs : s < 2 ^ r) {F : List Int} (f : FarT r s F) {b : List UInt8} (hb : b.length = r) (hob : b.all okc = true) (hnb : num b = s) {l : List UInt8} {ks : List Int} (h : Leads s l ks) :
    ∀ out : List Int, l.length = r → l.all okc = true → out.length + ks.length ≤ 100000 →
      Ev (fun k => impl_FirstPairMoves.l0 k (tx l) (tx b) F out) (out ++ ks, true) ∧ Ev (fun k => spec_twFirst.l0 k (tx l) (tx b) F out) (out ++ ks) := by
  induction h with
  | @nil l h =>
    intro out hl ho _
    have e : tx l = tx b := by rw [num_inj ho hob (by rw [hl, hb]) (by rw [h, hnb])]
    rw [List.append_nil]
    refine ⟨Ev.step (fun k => ?_) (Ev.now _), Ev.step (fun k => ?_) (Ev.now _)⟩
    · simp only [impl_FirstPairMoves.l0]
      rw [if_pos (by rw [e])]
    · simp only [spec_twFirst.l0]
      rw [if_pos (by rw [e])]
  | @cons l k ks hk hd _ ih =>
    intro out hl ho hx
    rw [List.length_cons] at hx
    obtain ⟨g1, g2⟩ := ih (out ++ [k]) (by rw [mkP_length, hl]) (mkP_ok ho k) (by rw [List.length_append, List.length_singleton]; omega)
    rw [List.append_assoc, List.singleton_append] at g1 g2
    have hne : num l ≠ s := fun e => by rw [e, D8_self] at hd; cases hd
    have hnt : ¬ (tx l).toList = (tx b).toList := fun e => by
      rw [toL_eq, tx_inj] at e
      rw [e] at hne
      exact hne hnb
    obtain ⟨k', hk', hd', hone⟩ := only_move (s := s) (by omega) ho (hl ▸ hs) hne
    have e := hone k hk hd
    subst e
    obtain ⟨i0, hi, hk0⟩ := List.getElem_of_mem hk
    have p1 := pairMoves (tx l) (by rw [tx_data]; omega) (by rw [tx_data]; omega)
    have p2 := twMoves (tx l) (by rw [tx_data]; omega) (by rw [tx_data]; omega) (by rw [tx_data]; exact ho)
    rw [tx_data] at p1 p2
    refine ⟨ev_num p1 (first_l1 h2 hr hs f (tx b) hl ho (by omega) hi hk0 hd hone g1 i0 0 (Nat.zero_add _)) (fun j hj => ?_), ev_num p2 (twFirst_l1 h2 hr hs f (tx b) hl ho (by omega) hi hk0 hd hone g2 i0 0 (Nat.zero_add _)) (fun j hj => ?_)⟩
    · simp only [impl_FirstPairMoves.l0]
      rw [if_neg hnt, hj, obind]
      rfl
    · simp only [spec_twFirst.l0]
      rw [if_neg hnt, hj, obind]
      rfl
end Go.Proofs.YtppbohghongfmaaDoor.Lem
namespace Go.Proofs.YtppbohghongfmaaDoor.Lem
open Go.RowKit Go.Proofs.YtppbohghongfmaaDoor.PN Go.Proofs.YtppbohghongfmaaDoorW.PrintWords Go.Proofs.YtppbohghongfmaaDoorW.PrintLast Go.Proofs.YtppbohghongfmaaDoorW.PrintMore Go.Proofs.YtppbohghongfmaaDoor.Ring Go.Proofs.YtppbohghongfmaaDoor.Bfs
set_option linter.unusedVariables false
set_option linter.unusedSimpArgs false

theorem drop_cons {α : Type} {l : List α} {i : Nat} (h : i < l.length) : l.drop i = l[i] :: l.drop (i + 1) := List.drop_eq_getElem_cons h
theorem l1Has_l0 (l : List Int) (hl : l.length ≤ 100000) (a : Int) : ∀ d i, i + d = l.length → Ev (fun k => spec_l1Has.l0 k a l (l.length : Int) (i : Int)) (decide (a ∈ l.drop i)) := by
  intro d
  induction d with
  | zero =>
    intro i hi
    rw [List.drop_eq_nil_of_le (by omega)]
    refine Ev.step (f := fun _ => some (decide (a ∈ ([] : List Int)))) (fun k => ?_) (Ev.now _)
    simp only [spec_l1Has.l0]
    rw [if_neg (by omega)]
    rfl
  | succ d ih =>
    intro i hi
    have hil : i < l.length := by omega
    have hil' : (i : Int) < (l.length : Int) := Int.ofNat_lt.2 hil
    rw [drop_cons hil]
    by_cases e : l[i] = a
    · refine Ev.step (f := fun _ => some (decide (a ∈ l[i] :: l.drop (i + 1)))) (fun k => ?_) (Ev.now _)
      simp only [spec_l1Has.l0]
      rw [if_pos hil', if_pos (Int.natCast_nonneg _), if_pos hil', rd_get hil, if_pos e, e, decide_eq_true (List.mem_cons_self)]
    · have h2 := ih (i + 1) (by omega)
      have e2 : decide (a ∈ l[i] :: l.drop (i + 1)) = decide (a ∈ l.drop (i + 1)) := by
        apply decide_eq_decide.2
        rw [List.mem_cons]
        exact ⟨fun h => h.elim (fun h => absurd h.symm e) id, .inr⟩
      rw [e2]
      refine Ev.step (fun k => ?_) h2
      simp only [spec_l1Has.l0]
      rw [if_pos hil', if_pos (Int.natCast_nonneg _), if_pos hil', rd_get hil, if_neg e, succ64 (by omega)]
theorem l1Has (l : List Int) (hl : l.length ≤ 100000) (a : Int) : Ev (fun k => spec_l1Has.f k l a) (decide (a ∈ l)) := l1Has_l0 l hl a l.length 0 (Nat.zero_add _)
theorem yHas_l0 (l : List Int) (hl : l.length ≤ 100000) (a : Int) : ∀ d i, i + d = l.length → Ev (fun k => laws_yHas.l0 k a l (l.length : Int) (i : Int)) (decide (a ∈ l.drop i)) := by
  intro d
  induction d with
  | zero =>
    intro i hi
    rw [List.drop_eq_nil_of_le (by omega)]
    refine Ev.step (f := fun _ => some (decide (a ∈ ([] : List Int)))) (fun k => ?_) (Ev.now _)
    simp only [laws_yHas.l0]
    rw [if_neg (by omega)]
    rfl
  | succ d ih =>
    intro i hi
    have hil : i < l.length := by omega
    have hil' : (i : Int) < (l.length : Int) := Int.ofNat_lt.2 hil
    rw [drop_cons hil]
    by_cases e : l[i] = a
    · refine Ev.step (f := fun _ => some (decide (a ∈ l[i] :: l.drop (i + 1)))) (fun k => ?_) (Ev.now _)
      simp only [laws_yHas.l0]
      rw [if_pos hil', if_pos (Int.natCast_nonneg _), if_pos hil', rd_get hil, if_pos e, e, decide_eq_true (List.mem_cons_self)]
    · have h2 := ih (i + 1) (by omega)
      have e2 : decide (a ∈ l[i] :: l.drop (i + 1)) = decide (a ∈ l.drop (i + 1)) := by
        apply decide_eq_decide.2
        rw [List.mem_cons]
        exact ⟨fun h => h.elim (fun h => absurd h.symm e) id, .inr⟩
      rw [e2]
      refine Ev.step (fun k => ?_) h2
      simp only [laws_yHas.l0]
      rw [if_pos hil', if_pos (Int.natCast_nonneg _), if_pos hil', rd_get hil, if_neg e, succ64 (by omega)]
theorem yHas (l : List Int) (hl : l.length ≤ 100000) (a : Int) : Ev (fun k => laws_yHas.f k l a) (decide (a ∈ l)) := yHas_l0 l hl a l.length 0 (Nat.zero_add _)
theorem ySum_l0 (l : List Int) (hl : l.length ≤ 1000) (hb : ∀ x ∈ l, -1 ≤ x ∧ x ≤ 1000) : ∀ d i (c : Int), i + d = l.length → -1000 * (i : Int) ≤ c → c ≤ 1000 * (i : Int) → Ev (fun k => laws_ySum.l0 k c l (l.length : Int) (i : Int)) (c + (l.drop i).sum) := by
  intro d
  induction d with
  | zero =>
    intro i c hi _ _
    rw [List.drop_eq_nil_of_le (by omega), List.sum_nil, Int.add_zero]
    refine Ev.step (f := fun _ => some c) (fun k => ?_) (Ev.now _)
    simp only [laws_ySum.l0]
    rw [if_neg (by omega)]
  | succ d ih =>
    intro i c hi h1 h2
    have hil : i < l.length := by omega
    have hil' : (i : Int) < (l.length : Int) := Int.ofNat_lt.2 hil
    have hx := hb l[i] (List.getElem_mem hil)
    have g := ih (i + 1) (c + l[i]) (by omega) (by omega) (by omega)
    rw [drop_cons hil, List.sum_cons, ← Int.add_assoc]
    refine Ev.step (fun k => ?_) g
    simp only [laws_ySum.l0]
    rw [if_pos hil', if_pos (Int.natCast_nonneg _), if_pos hil', rd_get hil, w64 (by omega) (by omega), succ64 (by omega)]
theorem ySum (l : List Int) (hl : l.length ≤ 1000) (hb : ∀ x ∈ l, -1 ≤ x ∧ x ≤ 1000) : Ev (fun k => laws_ySum.f k l) l.sum := by
  have h := ySum_l0 l hl hb l.length 0 0 (Nat.zero_add _) (by omega) (by omega)
  rw [List.drop_zero, Int.zero_add] at h
  exact h
theorem ySame_l0 (l : List Int) (hl : l.length ≤ 1000000) : ∀ d i, i + d = l.length → Ev (fun k => laws_ySame.l0 k l l (l.length : Int) (i : Int)) true := by
  intro d
  induction d with
  | zero =>
    intro i hi
    refine Ev.step (f := fun _ => some true) (fun k => ?_) (Ev.now _)
    simp only [laws_ySame.l0]
    rw [if_neg (by omega)]
  | succ d ih =>
    intro i hi
    have hil' : (i : Int) < (l.length : Int) := Int.ofNat_lt.2 (by omega)
    refine Ev.step (fun k => ?_) (ih (i + 1) (by omega))
    simp only [laws_ySame.l0]
    rw [if_pos hil', if_pos (Int.natCast_nonneg _), if_pos hil', if_pos hil', if_pos trivial, succ64 (by omega)]
theorem ySame (l : List Int) (hl : l.length ≤ 1000000) : Ev (fun k => laws_ySame.f k l l) true := by
  unfold laws_ySame.f
  exact Ev.congr (fun k => if_pos rfl) (ySame_l0 l hl l.length 0 (Nat.zero_add _))
theorem canPair {l : List UInt8} (h2 : 2 ≤ l.length) (h12 : l.length ≤ 12) (ho : l.all okc = true) (k : Int) : impl_canPair.f (tx l) k = some (decide (k ∈ mvP l)) := by
  unfold impl_canPair.f
  by_cases c : k = -1
  · subst c
    obtain ⟨a, b, ha, hb, ea, eb⟩ := two_heads (s := tx l) (by rw [tx_data]; exact h2)
    rw [tx_data] at ha hb
    rw [if_pos rfl, if_pos (by rw [tx_size]; omega), if_pos (by rw [tx_size]; omega), ea, eb]
    congr 1
    rw [int_beq]
    apply decide_eq_decide.2
    rw [mem_mvP, ha, hb]
    refine ⟨fun h => .inl ⟨rfl, by rw [UInt8.toNat_inj.1 h]⟩, fun h => ?_⟩
    rcases h with ⟨_, h⟩ | ⟨j, h, _⟩
    · rw [Option.some.inj h]
    · omega
  · rw [if_neg c]
    have hm : ∀ j : Nat, k = (j : Int) → j < l.length → decide (k ∈ mvP l) = canR l j := by
      intro j e hj
      subst e
      cases hc : canR l j with
      | true => exact decide_eq_true (mem_mvP.2 (.inr ⟨j, rfl, hj, hc⟩))
      | false =>
        apply decide_eq_false
        intro h
        rcases mem_mvP.1 h with ⟨h, _⟩ | ⟨i, h, _, hi⟩
        · omega
        · obtain rfl : i = j := by omega
          rw [hc] at hi
          cases hi
    by_cases g : 0 ≤ k ∧ k < (l.length : Int)
    · obtain ⟨j, rfl⟩ := Int.eq_ofNat_of_zero_le g.1
      have hj : j < l.length := Int.ofNat_lt.1 g.2
      have h := canMove (tx l) (by rw [tx_data]; omega) j (by rw [tx_data]; exact hj)
      rw [tx_data] at h
      rw [h, obind, hm j rfl hj]
    · have hno : decide (k ∈ mvP l) = false := by
        apply decide_eq_false
        intro h
        rcases mem_mvP.1 h with ⟨h, _⟩ | ⟨i, h, hi, _⟩
        · exact c h
        · exact g ⟨by omega, by omega⟩
      rw [hno]
      unfold impl_canMove.f
      rw [if_neg (by omega), in_eq, obind, tx_size, w64 (by omega) (by omega), if_neg (by rw [decide_eq_true_eq]; omega), obind]
/-- The answer to a played list. -/
def resP : Option (List UInt8) → ByteArray × Bool
  | none => (⟨#[]⟩, false)
  | some m => (tx m, true)
theorem mvP_top (l : List UInt8) (h12 : l.length ≤ 12) : (mvP l).length ≤ 13 := by have := mvP_len l; omega
theorem play_impl (ks : List Int) (hk : ks.length ≤ 100000) : ∀ d i (l : List UInt8), i + d = ks.length → 2 ≤ l.length → l.length ≤ 12 → l.all okc = true → Ev (fun k => impl_PlayPairMoves.l0 k (tx l) ks (ks.length : Int) (i : Int)) (resP (playP l (ks.drop i))) := by
  intro d
  induction d with
  | zero =>
    intro i l hi _ _ _
    rw [List.drop_eq_nil_of_le (by omega)]
    refine Ev.step (f := fun _ => some (tx l, true)) (fun k => ?_) (Ev.now _)
    simp only [impl_PlayPairMoves.l0]
    rw [if_neg (by omega)]
  | succ d ih =>
    intro i l hi h2 h12 ho
    have hil : i < ks.length := by omega
    have hil' : (i : Int) < (ks.length : Int) := Int.ofNat_lt.2 hil
    have hc := canPair h2 h12 ho ks[i]
    rw [drop_cons hil]
    unfold playP
    by_cases e : ks[i] ∈ mvP l
    · rw [if_pos e]
      refine Ev.step (fun k => ?_) (ih (i + 1) (mkP l ks[i]) (by omega) (by rw [mkP_length]; exact h2) (by rw [mkP_length]; exact h12) (mkP_ok ho _))
      simp only [impl_PlayPairMoves.l0]
      rw [if_pos hil', if_pos (Int.natCast_nonneg _), if_pos hil', rd_get hil, hc, obind, if_pos (decide_eq_true e), paired l h2 (by omega) ho _ e, obind, succ64 (by omega)]
    · rw [if_neg e]
      refine Ev.step (f := fun _ => some ((⟨#[]⟩ : ByteArray), false)) (fun k => ?_) (Ev.now _)
      simp only [impl_PlayPairMoves.l0]
      rw [if_pos hil', if_pos (Int.natCast_nonneg _), if_pos hil', rd_get hil, hc, obind, if_neg (by rw [decide_eq_true_eq]; exact e)]
theorem play_spec (ks : List Int) (hk : ks.length ≤ 100000) : ∀ d i (l : List UInt8), i + d = ks.length → 2 ≤ l.length → l.length ≤ 12 → l.all okc = true → Ev (fun k => spec_PlayPairMoves.l0 k (tx l) ks (ks.length : Int) (i : Int)) (resP (playP l (ks.drop i))) := by
  intro d
  induction d with
  | zero =>
    intro i l hi _ _ _
    rw [List.drop_eq_nil_of_le (by omega)]
    refine Ev.step (f := fun _ => some (tx l, true)) (fun k => ?_) (Ev.now _)
    simp only [spec_PlayPairMoves.l0]
    rw [if_neg (by omega)]
  | succ d ih =>
    intro i l hi h2 h12 ho
    have hil : i < ks.length := by omega
    have hil' : (i : Int) < (ks.length : Int) := Int.ofNat_lt.2 hil
    have p := twMoves (tx l) (by rw [tx_data]; omega) (by rw [tx_data]; omega) (by rw [tx_data]; exact ho)
    rw [tx_data] at p
    have hh := l1Has (mvP l) (by have := mvP_top l h12; omega) ks[i]
    rw [drop_cons hil]
    unfold playP
    by_cases e : ks[i] ∈ mvP l
    · rw [if_pos e]
      rw [decide_eq_true e] at hh
      refine ev_num2 p hh (ih (i + 1) (mkP l ks[i]) (by omega) (by rw [mkP_length]; exact h2) (by rw [mkP_length]; exact h12) (mkP_ok ho _)) (fun k g1 g2 => ?_)
      simp only [spec_PlayPairMoves.l0]
      rw [if_pos hil', if_pos (Int.natCast_nonneg _), if_pos hil', rd_get hil, g1, obind, g2, obind, if_pos rfl, twMake l h2 (by omega) ho _ e, obind, succ64 (by omega)]
    · rw [if_neg e]
      rw [decide_eq_false e] at hh
      refine ev_num2 p hh (Ev.now _) (fun k g1 g2 => ?_)
      simp only [spec_PlayPairMoves.l0]
      rw [if_pos hil', if_pos (Int.natCast_nonneg _), if_pos hil', rd_get hil, g1, obind, g2, obind, if_neg (by decide)]
      rfl
/-- A good text of two to twelve rings. -/
theorem good_tx {l : List UInt8} : goodP (tx l).data.toList = goodP l := by rw [tx_data]
theorem goodP_of {l : List UInt8} (h2 : 2 ≤ l.length) (h12 : l.length ≤ 12) (ho : l.all okc = true) : goodP l = true := by
  have h := isSt_tx h2 h12 ho
  rw [tx_data] at h
  unfold goodP
  rw [h, decide_eq_true ⟨h2, h12⟩]
  rfl
def playV (a : ByteArray) (ks : List Int) : ByteArray × Bool := if goodP a.data.toList = true ∧ ks.length ≤ 2000 then resP (playP a.data.toList ks) else (⟨#[]⟩, false)
theorem play_both (a : ByteArray) (ks : List Int) (hk : ks.length ≤ 100000) : Ev (fun k => impl_PlayPairMoves.f k a ks) (playV a ks) ∧ Ev (fun k => spec_PlayPairMoves.f k a ks) (playV a ks) := by
  have h1 := isPaired a
  have h2 := twGood a
  unfold impl_PlayPairMoves.f spec_PlayPairMoves.f playV
  cases hg : goodP a.data.toList with
  | false =>
    rw [hg] at h1 h2
    rw [if_neg (by simp)]
    refine ⟨Ev.congr (fun k => by rw [h1, obind, if_neg (by simp)]) (Ev.step (f := fun _ => some (⟨#[]⟩, false)) (fun k => ?_) (Ev.now _)), Ev.bind h2 (Ev.congr (fun k => if_neg (by simp)) (Ev.step (f := fun _ => some (⟨#[]⟩, false)) (fun k => ?_) (Ev.now _)))⟩
    · simp only [impl_PlayPairMoves.j0]
      rw [if_pos trivial]
    · simp only [spec_PlayPairMoves.j0]
      rw [if_pos trivial]
  | true =>
    rw [hg] at h1 h2
    obtain ⟨g2, g12, go, gs⟩ := goodP_len hg
    by_cases hl : ks.length ≤ 2000
    · rw [if_pos ⟨rfl, hl⟩]
      have p1 := play_impl ks hk ks.length 0 a.data.toList (Nat.zero_add _) g2 g12 go
      have p2 := play_spec ks hk ks.length 0 a.data.toList (Nat.zero_add _) g2 g12 go
      rw [tx_self, List.drop_zero] at p1 p2
      have hd : decide ((ks.length : Int) > 2000) = false := decide_eq_false (by omega)
      refine ⟨Ev.congr (fun k => by rw [h1, obind, if_pos rfl, hd]) (Ev.step (fun k => ?_) p1), Ev.bind h2 (Ev.congr (fun k => by rw [if_pos rfl, hd]) (Ev.step (fun k => ?_) p2))⟩
      · simp only [impl_PlayPairMoves.j0]
        rw [if_neg (by simp)]
        rfl
      · simp only [spec_PlayPairMoves.j0]
        rw [if_neg (by simp)]
        rfl
    · rw [if_neg (fun h => hl h.2)]
      have hd : decide ((ks.length : Int) > 2000) = true := decide_eq_true (by omega)
      refine ⟨Ev.congr (fun k => by rw [h1, obind, if_pos rfl, hd]) (Ev.step (f := fun _ => some (⟨#[]⟩, false)) (fun k => ?_) (Ev.now _)), Ev.bind h2 (Ev.congr (fun k => by rw [if_pos rfl, hd]) (Ev.step (f := fun _ => some (⟨#[]⟩, false)) (fun k => ?_) (Ev.now _)))⟩
      · simp only [impl_PlayPairMoves.j0]
        rw [if_pos trivial]
      · simp only [spec_PlayPairMoves.j0]
        rw [if_pos trivial]
def movesV (a : ByteArray) : List Int × Bool := if goodP a.data.toList = true then (mvP a.data.toList, true) else ([], false)
theorem moves_both (a : ByteArray) : Ev (fun k => impl_PairMovesOf.f k a) (movesV a) ∧ Ev (fun k => spec_PairMovesOf.f k a) (movesV a) := by
  have h1 := isPaired a
  have h2 := twGood a
  unfold impl_PairMovesOf.f spec_PairMovesOf.f movesV
  cases hg : goodP a.data.toList with
  | false =>
    rw [hg] at h1 h2
    rw [if_neg (by simp)]
    exact ⟨Ev.congr (fun k => by rw [h1, obind, if_neg (by simp)]) (Ev.now _), Ev.bind h2 (Ev.congr (fun k => if_neg (by simp)) (Ev.now _))⟩
  | true =>
    rw [hg] at h1 h2
    obtain ⟨g2, g12, go, gs⟩ := goodP_len hg
    rw [if_pos rfl]
    exact ⟨Ev.congr (fun k => by rw [h1, obind, if_pos rfl]) (Ev.bind (pairMoves a g2 (by omega)) (Ev.now _)), Ev.bind h2 (Ev.congr (fun k => if_pos rfl) (Ev.bind (twMoves a g2 (by omega) go) (Ev.now _)))⟩
def madeV (a : ByteArray) (m : Int) : ByteArray × Bool := if goodP a.data.toList = true ∧ m ∈ mvP a.data.toList then (tx (mkP a.data.toList m), true) else (⟨#[]⟩, false)
theorem made_impl (a : ByteArray) (m : Int) : impl_MakePairMove.f a m = some (madeV a m) := by
  have h1 := isPaired a
  unfold impl_MakePairMove.f madeV
  cases hg : goodP a.data.toList with
  | false =>
    rw [hg] at h1
    rw [if_neg (by simp), h1, obind, if_neg (by simp)]
  | true =>
    rw [hg] at h1
    obtain ⟨g2, g12, go, gs⟩ := goodP_len hg
    have hc := canPair g2 g12 go m
    rw [tx_self] at hc
    rw [h1, obind, if_pos rfl, hc, obind]
    by_cases e : m ∈ mvP a.data.toList
    · have p := paired a.data.toList g2 (by omega) go m e
      rw [tx_self] at p
      rw [if_pos (decide_eq_true e), p, obind, if_pos ⟨rfl, e⟩]
    · rw [if_neg (by rw [decide_eq_true_eq]; exact e), if_neg (fun h => e h.2)]
theorem made_spec (a : ByteArray) (m : Int) : Ev (fun k => spec_MakePairMove.f k a m) (madeV a m) := by
  have h2 := twGood a
  unfold spec_MakePairMove.f madeV
  cases hg : goodP a.data.toList with
  | false =>
    rw [hg] at h2
    rw [if_neg (by simp)]
    exact Ev.bind h2 (Ev.congr (fun k => if_neg (by simp)) (Ev.now _))
  | true =>
    rw [hg] at h2
    obtain ⟨g2, g12, go, gs⟩ := goodP_len hg
    refine Ev.bind h2 (Ev.congr (fun k => if_pos rfl) (Ev.bind (twMoves a g2 (by omega) go) (Ev.bind (l1Has (mvP a.data.toList) (by have := mvP_top a.data.toList g12; omega) m) ?_)))
    by_cases e : m ∈ mvP a.data.toList
    · have p := twMake a.data.toList g2 (by omega) go m e
      rw [tx_self] at p
      have hv : (if true = true ∧ m ∈ mvP a.data.toList then (tx (mkP a.data.toList m), true) else ((⟨#[]⟩ : ByteArray), false)) = (tx (mkP a.data.toList m), true) := if_pos ⟨rfl, e⟩
      rw [hv]
      exact Ev.congr (fun k => by rw [if_pos (decide_eq_true e), p, obind]) (Ev.now _)
    · have hv : (if true = true ∧ m ∈ mvP a.data.toList then (tx (mkP a.data.toList m), true) else ((⟨#[]⟩ : ByteArray), false)) = ((⟨#[]⟩ : ByteArray), false) := if_neg (fun h => e h.2)
      rw [hv]
      exact Ev.congr (fun k => if_neg (by rw [decide_eq_true_eq]; exact e)) (Ev.now _)
end Go.Proofs.YtppbohghongfmaaDoor.Lem
namespace Go.Proofs.YtppbohghongfmaaDoor.Lem
open Go.RowKit Go.Proofs.YtppbohghongfmaaDoor.PN Go.Proofs.YtppbohghongfmaaDoorW.PrintWords Go.Proofs.YtppbohghongfmaaDoorW.PrintLast Go.Proofs.YtppbohghongfmaaDoorW.PrintMore Go.Proofs.YtppbohghongfmaaDoor.Ring Go.Proofs.YtppbohghongfmaaDoor.Bfs
set_option linter.unusedVariables false
set_option linter.unusedSimpArgs false

theorem apart {a b : Nat} (ha : a < 1048576) (hb : b < 1048576) : impl_apart.f (a : Int) (b : Int) = some (((a - b) + (b - a) : Nat) : Int) := by
  unfold impl_apart.f mx
  rw [w64 (by omega) (by omega), w64 (by omega) (by omega)]
  congr 1
  split <;> omega
theorem l1Abs {a b : Nat} (ha : a < 1048576) (hb : b < 1048576) : spec_l1Abs.f (wrap64 ((a : Int) - (b : Int))) = some (((a - b) + (b - a) : Nat) : Int) := by
  unfold spec_l1Abs.f spec_l1Most.f
  rw [w64 (n := (a : Int) - b) (by omega) (by omega), w64 (by omega) (by omega)]
  split <;> (simp only [obind]; congr 1; omega)
/-- Two states of as many rings. -/
structure Duo (a b : ByteArray) (r : Nat) (la lb : List UInt8) : Prop where
  ea : a = tx la
  eb : b = tx lb
  hla : la.length = r
  hlb : lb.length = r
  oa : la.all okc = true
  ob : lb.all okc = true
  h2 : 2 ≤ r
  h12 : r ≤ 12
theorem duo_of {a b : ByteArray} (h : twoP a b = true) : ∃ r la lb, Duo a b r la lb := by
  unfold twoP at h
  simp only [Bool.and_eq_true, decide_eq_true_eq] at h
  obtain ⟨ha, hb, hl⟩ := h
  obtain ⟨a1, a2, a3, a4⟩ := goodP_len ha
  obtain ⟨b1, b2, b3, b4⟩ := goodP_len hb
  exact ⟨_, _, _, (tx_self a).symm, (tx_self b).symm, hl, rfl, a3, b3, b1, b2⟩
section
variable {a b : ByteArray} {r : Nat} {la lb : List UInt8}
theorem Duo.two (D : Duo a b r la lb) : twoP a b = true := by
  have h1 := goodP_of (l := la) (by rw [D.hla]; exact D.h2) (by rw [D.hla]; exact D.h12) D.oa
  have h2 := goodP_of (l := lb) (by rw [D.hlb]; exact D.h2) (by rw [D.hlb]; exact D.h12) D.ob
  unfold twoP
  rw [D.ea, D.eb, tx_data, tx_data, h1, h2, decide_eq_true (by rw [D.hla, D.hlb])]
  rfl
theorem Duo.back (D : Duo a b r la lb) : Duo b a r lb la := ⟨D.eb, D.ea, D.hlb, D.hla, D.ob, D.oa, D.h2, D.h12⟩
theorem Duo.na (D : Duo a b r la lb) : num la < 2 ^ r := by rw [← D.hla]; exact num_lt la
theorem Duo.nb (D : Duo a b r la lb) : num lb < 2 ^ r := by rw [← D.hlb]; exact num_lt lb
theorem Duo.numA (D : Duo a b r la lb) : Ev (fun k => impl_number.f k a) (num la : Int) := by
  have h := number (tx la) (isSt_tx (by rw [D.hla]; exact D.h2) (by rw [D.hla]; exact D.h12) D.oa)
  rw [tx_data, ← D.ea] at h
  exact h
theorem Duo.riNumA (D : Duo a b r la lb) : Ev (fun k => spec_riNumber.f k a) (num la : Int) := by
  have h := riNumber (tx la) (by rw [tx_data, D.hla]; have := D.h12; omega)
  rw [tx_data, ← D.ea] at h
  exact h
/-- The searches from the first of two states. -/
theorem Duo.found (D : Duo a b r la lb) : ∃ F W Q, FarT r (num la) F ∧ W.length = 2 ^ r ∧ (∀ n, n < 2 ^ r → rd W ((n : Nat) : Int) = 1) ∧ Ev (fun k => spec_twFar.f k a) (F, W) ∧ Ev (fun k => impl_search.f k a) (F, W, Q) := by
  obtain ⟨st, hf, hw, e1, e2⟩ := far_run_w la (by rw [D.hla]; exact D.h2) (by rw [D.hla]; exact D.h12) D.oa
  rw [← D.ea] at e1 e2
  rw [D.hla] at hf hw e1 e2
  refine ⟨_, _, _, ⟨farL_length _ _, fun n h => ?_⟩, rowF_length _ _, fun n h => ?_, e1, e2⟩
  · rw [farL_rd st h, far_D8 D.h2 D.na hf h]
    rfl
  · have e : rd (wayL (2 ^ r) st) (n : Int) = st.ways n := rowF_rd (2 ^ r) _ n h
    exact e.trans (ways_one D.h2 D.na hf hw h)
theorem Duo.few (D : Duo a b r la lb) : Ev (fun k => impl_FewestPairMoves.f k a b) ((D8 (num lb) (num la) : Nat), true) ∧ Ev (fun k => spec_FewestPairMoves.f k a b) ((D8 (num lb) (num la) : Nat), true) := by
  obtain ⟨F, W, Q, f, _, _, e1, e2⟩ := D.found
  obtain ⟨F', W', Q', f', _, _, e1', e2'⟩ := D.back.found
  have ht := twTwo a b
  rw [D.two] at ht
  have hp := arePaired a b
  rw [D.two] at hp
  refine ⟨?_, ?_⟩
  · unfold impl_FewestPairMoves.f
    refine Ev.congr (fun k => by rw [hp, obind, if_pos rfl]) (Ev.bind e2 (Ev.bind D.back.numA ?_))
    exact Ev.congr (fun k => by rw [if_pos (Int.natCast_nonneg _), f.len, if_pos (Int.ofNat_lt.2 D.nb), f.at_ _ D.nb, D8_symm]) (Ev.now _)
  · unfold spec_FewestPairMoves.f
    refine Ev.bind ht (Ev.congr (fun k => if_pos rfl) (Ev.bind e1' (Ev.bind D.riNumA ?_)))
    exact Ev.congr (fun k => by rw [if_pos (Int.natCast_nonneg _), f'.len, if_pos (Int.ofNat_lt.2 D.na), f'.at_ _ D.na]) (Ev.now _)
theorem Duo.ways (D : Duo a b r la lb) : Ev (fun k => impl_CountPairWays.f k a b) (1, true) ∧ Ev (fun k => spec_CountPairWays.f k a b) (1, true) := by
  obtain ⟨F, W, Q, f, l1, w1, e1, e2⟩ := D.found
  obtain ⟨F', W', Q', f', l2, w2, e1', e2'⟩ := D.back.found
  have ht := twTwo a b
  rw [D.two] at ht
  have hp := arePaired a b
  rw [D.two] at hp
  refine ⟨?_, ?_⟩
  · unfold impl_CountPairWays.f
    refine Ev.congr (fun k => by rw [hp, obind, if_pos rfl]) (Ev.bind e2 (Ev.bind D.back.numA ?_))
    exact Ev.congr (fun k => by rw [if_pos (Int.natCast_nonneg _), l1, if_pos (Int.ofNat_lt.2 D.nb), w1 _ D.nb]) (Ev.now _)
  · unfold spec_CountPairWays.f
    refine Ev.bind ht (Ev.congr (fun k => if_pos rfl) (Ev.bind e1' (Ev.bind D.riNumA ?_)))
    exact Ev.congr (fun k => by rw [if_pos (Int.natCast_nonneg _), l2, if_pos (Int.ofNat_lt.2 D.na), w2 _ D.na]) (Ev.now _)
theorem Duo.small (D : Duo a b r la lb) : num la < 4096 ∧ num lb < 4096 := by
  have h := pow_le12 D.h12
  exact ⟨Nat.lt_of_lt_of_le D.na h, Nat.lt_of_lt_of_le D.nb h⟩
/-- The moves of one ring at a time. -/
def plainN (la lb : List UInt8) : Nat := (num la - num lb) + (num lb - num la)
theorem Duo.saved (D : Duo a b r la lb) : Ev (fun k => impl_SavedByPairs.f k a b) ((plainN la lb : Int) - (D8 (num lb) (num la) : Nat), true) ∧ Ev (fun k => spec_SavedByPairs.f k a b) ((plainN la lb : Int) - (D8 (num lb) (num la) : Nat), true) := by
  obtain ⟨F', W', Q', f', _, _, e1', e2'⟩ := D.back.found
  have ht := twTwo a b
  rw [D.two] at ht
  obtain ⟨s1, s2⟩ := D.small
  have h1 := l1Abs (a := num la) (b := num lb) (by omega) (by omega)
  have h1b := apart (a := num la) (b := num lb) (by omega) (by omega)
  have ht1 := D8_top (num lb) (num la)
  have hw : wrap64 ((((num la - num lb) + (num lb - num la) : Nat) : Int) - ((D8 (num lb) (num la) : Nat) : Int)) = (plainN la lb : Int) - (D8 (num lb) (num la) : Nat) := by
    unfold plainN
    exact w64 (by omega) (by omega)
  refine ⟨?_, ?_⟩
  · unfold impl_SavedByPairs.f
    refine Ev.bind D.few.1 (Ev.congr (fun k => if_pos rfl) (Ev.bind D.numA (Ev.bind D.back.numA ?_)))
    exact Ev.congr (fun k => by rw [h1b, obind, hw]) (Ev.now _)
  · unfold spec_SavedByPairs.f
    refine Ev.bind ht (Ev.congr (fun k => if_pos rfl) (Ev.bind e1' (Ev.bind D.riNumA (Ev.bind D.back.riNumA ?_))))
    refine Ev.congr (fun k => by rw [h1, obind]) (Ev.bind D.riNumA ?_)
    exact Ev.congr (fun k => by rw [if_pos (Int.natCast_nonneg _), f'.len, if_pos (Int.ofNat_lt.2 D.na), f'.at_ _ D.na, hw]) (Ev.now _)
theorem Duo.plain (D : Duo a b r la lb) : Ev (fun k => impl_FewestMoves.f k a b) ((plainN la lb : Int), true) := by
  have h1 := isState a
  have h2 := isState b
  have g1 := isSt_tx (l := la) (by rw [D.hla]; exact D.h2) (by rw [D.hla]; exact D.h12) D.oa
  have g2 := isSt_tx (l := lb) (by rw [D.hlb]; exact D.h2) (by rw [D.hlb]; exact D.h12) D.ob
  rw [← D.ea] at g1
  rw [← D.eb] at g2
  rw [g1] at h1
  rw [g2] at h2
  obtain ⟨s1, s2⟩ := D.small
  have h1b := apart (a := num la) (b := num lb) (by omega) (by omega)
  have hs : ((a.size : Int) == (b.size : Int)) = true := by
    rw [D.ea, D.eb, tx_size, tx_size, D.hla, D.hlb]
    exact beq_self_eq_true _
  have hal : impl_alike.f a b = some true := by
    unfold impl_alike.f
    rw [h1, obind, if_pos rfl, h2, obind, if_pos rfl, hs]
  unfold impl_FewestMoves.f
  refine Ev.congr (fun k => by rw [hal, obind, if_pos rfl]) (Ev.bind D.numA (Ev.bind D.back.numA ?_))
  exact Ev.congr (fun k => by rw [h1b, obind]; rfl) (Ev.now _)
theorem Duo.first (D : Duo a b r la lb) (h11 : r ≤ 10) : ∃ ks, Leads (num lb) la ks ∧ Ev (fun k => impl_FirstPairMoves.f k a b) (ks, true) ∧ Ev (fun k => spec_twFirst.f k a b) ks ∧ Ev (fun k => spec_FirstPairMoves.f k a b) (ks, true) := by
  obtain ⟨F, W, Q, f, _, _, e1, e2⟩ := D.back.found
  obtain ⟨ks, hks⟩ := leads (r := r) D.h2 D.nb _ la D.hla D.oa rfl
  have hlen := hks.len
  have htop := D8_top (num lb) (num la)
  obtain ⟨s1, s2⟩ := D.small
  have h1024 : 2 ^ r ≤ 1024 := Nat.pow_le_pow_right (by decide) h11
  have hna := D.na
  have hnb := D.nb
  obtain ⟨g1, g2⟩ := hks.first D.h2 D.h12 D.nb f D.hlb D.ob rfl [] D.hla D.oa (by rw [List.length_nil]; omega)
  rw [List.nil_append, ← D.ea, ← D.eb] at g1 g2
  have ht := twTwo a b
  rw [D.two] at ht
  have hp := arePaired a b
  rw [D.two] at hp
  have g3 : Ev (fun k => spec_twFirst.f k a b) ks := by
    unfold spec_twFirst.f
    exact Ev.bind e1 g2
  refine ⟨ks, hks, ?_, g3, ?_⟩
  · unfold impl_FirstPairMoves.f
    refine Ev.congr (fun k => by rw [hp, obind, if_pos rfl]) (Ev.bind e2 (Ev.bind D.numA ?_))
    refine Ev.congr (fun k => ?_) g1
    rw [if_pos (Int.natCast_nonneg _), f.len, if_pos (Int.ofNat_lt.2 hna), f.at_ _ hna, if_neg (by omega)]
  · unfold spec_FirstPairMoves.f
    exact Ev.bind ht (Ev.congr (fun k => if_pos rfl) (Ev.bind g3 (Ev.now _)))
end
theorem used_impl (l : List Int) (hl : l.length ≤ 100000) : ∀ d i (c : Nat), i + d = l.length → c ≤ i → Ev (fun k => impl_PairsUsed.l0 k (c : Int) l (l.length : Int) (i : Int)) (((c + (l.drop i).count (-1) : Nat) : Int), true) := by
  intro d
  induction d with
  | zero =>
    intro i c hi _
    rw [List.drop_eq_nil_of_le (by omega), List.count_nil, Nat.add_zero]
    refine Ev.step (f := fun _ => some ((c : Int), true)) (fun k => ?_) (Ev.now _)
    simp only [impl_PairsUsed.l0]
    rw [if_neg (by omega)]
  | succ d ih =>
    intro i c hi hc
    have hil : i < l.length := by omega
    have hil' : (i : Int) < (l.length : Int) := Int.ofNat_lt.2 hil
    rw [drop_cons hil, List.count_cons]
    by_cases e : l[i] = -1
    · have g := ih (i + 1) (c + 1) (by omega) (by omega)
      rw [if_pos (by rw [e]; rfl), show c + ((l.drop (i + 1)).count (-1) + 1) = c + 1 + (l.drop (i + 1)).count (-1) by omega]
      refine Ev.step (fun k => ?_) g
      simp only [impl_PairsUsed.l0]
      rw [if_pos hil', if_pos (Int.natCast_nonneg _), if_pos hil', rd_get hil, if_pos e, succ64 (by omega), succ64 (by omega)]
    · have g := ih (i + 1) c (by omega) (by omega)
      rw [if_neg (by simpa using e), Nat.add_zero]
      refine Ev.step (fun k => ?_) g
      simp only [impl_PairsUsed.l0]
      rw [if_pos hil', if_pos (Int.natCast_nonneg _), if_pos hil', rd_get hil, if_neg e, succ64 (by omega)]
theorem used_spec (l : List Int) (hl : l.length ≤ 100000) : ∀ d i (c : Nat), i + d = l.length → c ≤ i → Ev (fun k => spec_PairsUsed.l0 k (c : Int) l (l.length : Int) (i : Int)) (((c + (l.drop i).count (-1) : Nat) : Int), true) := by
  intro d
  induction d with
  | zero =>
    intro i c hi _
    rw [List.drop_eq_nil_of_le (by omega), List.count_nil, Nat.add_zero]
    refine Ev.step (f := fun _ => some ((c : Int), true)) (fun k => ?_) (Ev.now _)
    simp only [spec_PairsUsed.l0]
    rw [if_neg (by omega)]
  | succ d ih =>
    intro i c hi hc
    have hil : i < l.length := by omega
    have hil' : (i : Int) < (l.length : Int) := Int.ofNat_lt.2 hil
    rw [drop_cons hil, List.count_cons]
    by_cases e : l[i] = -1
    · have g := ih (i + 1) (c + 1) (by omega) (by omega)
      rw [if_pos (by rw [e]; rfl), show c + ((l.drop (i + 1)).count (-1) + 1) = c + 1 + (l.drop (i + 1)).count (-1) by omega]
      refine Ev.step (fun k => ?_) g
      simp only [spec_PairsUsed.l0]
      rw [if_pos hil', if_pos (Int.natCast_nonneg _), if_pos hil', rd_get hil, if_pos e, succ64 (by omega), succ64 (by omega)]
    · have g := ih (i + 1) c (by omega) (by omega)
      rw [if_neg (by simpa using e), Nat.add_zero]
      refine Ev.step (fun k => ?_) g
      simp only [spec_PairsUsed.l0]
      rw [if_pos hil', if_pos (Int.natCast_nonneg _), if_pos hil', rd_get hil, if_neg e, succ64 (by omega)]
theorem used_both {a b : ByteArray} {ks : List Int} (hl : ks.length ≤ 100000) (ht : twoP a b = true) (h1 : Ev (fun k => impl_FirstPairMoves.f k a b) (ks, true)) (h2 : Ev (fun k => spec_twFirst.f k a b) ks) :
    Ev (fun k => impl_PairsUsed.f k a b) (((ks.count (-1) : Nat) : Int), true) ∧ Ev (fun k => spec_PairsUsed.f k a b) (((ks.count (-1) : Nat) : Int), true) := by
  have g1 := used_impl ks hl ks.length 0 0 (Nat.zero_add _) (Nat.le_refl _)
  have g2 := used_spec ks hl ks.length 0 0 (Nat.zero_add _) (Nat.le_refl _)
  rw [List.drop_zero, Nat.zero_add] at g1 g2
  have hw := twTwo a b
  rw [ht] at hw
  refine ⟨?_, ?_⟩
  · unfold impl_PairsUsed.f
    exact Ev.bind h1 (Ev.congr (fun k => if_pos rfl) g1)
  · unfold spec_PairsUsed.f
    exact Ev.bind hw (Ev.congr (fun k => if_pos rfl) (Ev.bind h2 g2))
/-- Texts that are no two states of as many rings. -/
theorem no_two {a b : ByteArray} (h : twoP a b = false) :
    (Ev (fun k => impl_FirstPairMoves.f k a b) (([] : List Int), false) ∧ Ev (fun k => spec_FirstPairMoves.f k a b) (([] : List Int), false)) ∧
    (Ev (fun k => impl_FewestPairMoves.f k a b) ((0 : Int), false) ∧ Ev (fun k => spec_FewestPairMoves.f k a b) ((0 : Int), false)) ∧
    (Ev (fun k => impl_CountPairWays.f k a b) ((0 : Int), false) ∧ Ev (fun k => spec_CountPairWays.f k a b) ((0 : Int), false)) ∧
    (Ev (fun k => impl_SavedByPairs.f k a b) ((0 : Int), false) ∧ Ev (fun k => spec_SavedByPairs.f k a b) ((0 : Int), false)) ∧
    (Ev (fun k => impl_PairsUsed.f k a b) ((0 : Int), false) ∧ Ev (fun k => spec_PairsUsed.f k a b) ((0 : Int), false)) := by
  have ht := twTwo a b
  rw [h] at ht
  have hp := arePaired a b
  rw [h] at hp
  have g1 : Ev (fun k => impl_FirstPairMoves.f k a b) (([] : List Int), false) := by
    unfold impl_FirstPairMoves.f
    exact Ev.congr (fun k => by rw [hp, obind, if_neg (by simp)]) (Ev.now _)
  have g2 : Ev (fun k => impl_FewestPairMoves.f k a b) ((0 : Int), false) := by
    unfold impl_FewestPairMoves.f
    exact Ev.congr (fun k => by rw [hp, obind, if_neg (by simp)]) (Ev.now _)
  refine ⟨⟨g1, ?_⟩, ⟨g2, ?_⟩, ⟨?_, ?_⟩, ⟨?_, ?_⟩, ⟨?_, ?_⟩⟩
  · unfold spec_FirstPairMoves.f
    exact Ev.bind ht (Ev.congr (fun k => if_neg (by simp)) (Ev.now _))
  · unfold spec_FewestPairMoves.f
    exact Ev.bind ht (Ev.congr (fun k => if_neg (by simp)) (Ev.now _))
  · unfold impl_CountPairWays.f
    exact Ev.congr (fun k => by rw [hp, obind, if_neg (by simp)]) (Ev.now _)
  · unfold spec_CountPairWays.f
    exact Ev.bind ht (Ev.congr (fun k => if_neg (by simp)) (Ev.now _))
  · unfold impl_SavedByPairs.f
    exact Ev.bind g2 (Ev.congr (fun k => if_neg (by simp)) (Ev.now _))
  · unfold spec_SavedByPairs.f
    exact Ev.bind ht (Ev.congr (fun k => if_neg (by simp)) (Ev.now _))
  · unfold impl_PairsUsed.f
    exact Ev.bind g1 (Ev.congr (fun k => if_neg (by simp)) (Ev.now _))
  · unfold spec_PairsUsed.f
    exact Ev.bind ht (Ev.congr (fun k => if_neg (by simp)) (Ev.now _))
end Go.Proofs.YtppbohghongfmaaDoor.Lem
