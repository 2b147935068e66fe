/-
  All moves by keys: the law holds.
-/
import Derived.Test.YtbgkcbppkhakhaaDoorLemKeyLawK
namespace Go.Proofs.YtbgkcbppkhakhaaDoor.Lem
open Go.RowKit Go.Proofs.YtbgkcbppkhakhaaDoor.PK Go.Proofs.YtbgkcbppkhakhaaDoorW.PrintWords Go.Proofs.YtbgkcbppkhakhaaDoorW.PrintLast Go.Proofs.YtbgkcbppkhakhaaDoorW.PrintMore Go.Proofs.YtbgkcbppkhakhaaDoor.Ring Go.Proofs.YtbgkcbppkhakhaaDoor.Bfs
set_option linter.unusedVariables false
set_option linter.unusedSimpArgs false

theorem markText_l0 : ∀ (f n : Nat) (x : ByteArray), n ≤ f → n ≤ 1000000000 → x.size + n ≤ 2000000000 → ∃ v, Ev (fun k => laws_markText.l0 k (n : Int) x) v := by
  intro f
  induction f with
  | zero =>
    intro n x hn _ hx
    have : n = 0 := by omega
    subst this
    refine ⟨(⟨#[109]⟩ : ByteArray) ++ x, Ev.step (f := fun _ => some ((⟨#[109]⟩ : ByteArray) ++ x)) (fun k => ?_) (Ev.now _)⟩
    simp only [laws_markText.l0]
    rw [if_neg (by omega), if_pos (by omega)]
  | succ f ih =>
    intro n x hn hb hx
    by_cases h0 : n = 0
    · subst h0
      refine ⟨(⟨#[109]⟩ : ByteArray) ++ x, Ev.step (f := fun _ => some ((⟨#[109]⟩ : ByteArray) ++ x)) (fun k => ?_) (Ev.now _)⟩
      simp only [laws_markText.l0]
      rw [if_neg (by omega), if_pos (by omega)]
    · have hs : (strOfNums [(wrap64 (48 + (Int.tmod (n : Int) 10))) % 256] ++ x).size = 1 + x.size := by rw [ByteArray.size_append]; rfl
      obtain ⟨v, hv⟩ := ih (n / 10) (strOfNums [(wrap64 (48 + (Int.tmod (n : Int) 10))) % 256] ++ x) (by omega) (by omega) (by rw [hs]; omega)
      refine ⟨v, Ev.step (fun k => ?_) hv⟩
      simp only [laws_markText.l0]
      have e : wrap64 (Int.tdiv (n : Int) 10) = ((n / 10 : Nat) : Int) := by
        have : Int.tdiv (n : Int) 10 = ((n / 10 : Nat) : Int) := by rw [Int.tdiv_eq_ediv_of_nonneg (by omega)]; omega
        rw [this, w64 (by omega) (by omega)]
      rw [if_pos (by omega), e, obind, if_pos (by show 1 + x.size ≤ _; omega)]
theorem markText (n : Nat) (hn : n ≤ 1000000000) : ∃ v, Ev (fun k => laws_markText.f k (n : Int)) v := by
  by_cases h : n = 0
  · subst h
    refine ⟨(⟨#[109, 48]⟩ : ByteArray), Ev.congr (fun k => ?_) (Ev.now _)⟩
    unfold laws_markText.f
    rw [if_pos (by omega)]
  · obtain ⟨v, hv⟩ := markText_l0 n n (⟨#[]⟩ : ByteArray) (Nat.le_refl _) hn (by show 0 + n ≤ _; omega)
    refine ⟨v, Ev.congr (fun k => ?_) hv⟩
    unfold laws_markText.f
    rw [if_neg (by omega)]
theorem getD_setS {l : List ByteArray} {i j : Nat} {v : ByteArray} (hi : i < l.length) : (l.set i v).getD j ByteArray.empty = if j = i then v else l.getD j ByteArray.empty := by
  simp only [List.getD, List.getElem?_set]
  by_cases h : i = j
  · subst h
    simp [hi]
  · rw [if_neg h, if_neg (fun e => h e.symm)]
theorem marks_l0 : ∀ (d i : Nat) (l : List ByteArray), i + d = l.length → l.length < 900000000 → (∀ j, j < i → Ev (fun k => laws_markText.f k ((j + 1 : Nat) : Int)) (l.getD j ByteArray.empty)) →
    ∃ l' : List ByteArray, l'.length = l.length ∧ (∀ j, j < l.length → Ev (fun k => laws_markText.f k ((j + 1 : Nat) : Int)) (l'.getD j ByteArray.empty)) ∧
      Ev (fun k => laws_markStringS.l0 k l ((i + 1 : Nat) : Int) (i : Int)) (((l.length + 1 : Nat) : Int), l') := by
  intro d
  induction d with
  | zero =>
    intro i l hi hl h
    refine ⟨l, rfl, fun j hj => h j (by omega), Ev.step (f := fun _ => some (((l.length + 1 : Nat) : Int), l)) (fun k => ?_) (Ev.now _)⟩
    simp only [laws_markStringS.l0]
    rw [if_neg (by omega)]
    have : i = l.length := by omega
    rw [this]
  | succ d ih =>
    intro i l hi hl h
    obtain ⟨v, hv⟩ := markText (i + 1) (by omega)
    obtain ⟨l', h1, h2, h3⟩ := ih (i + 1) (l.set i v) (by rw [List.length_set]; omega) (by rw [List.length_set]; omega) (fun j hj => by
      rw [getD_setS (by omega)]
      by_cases e : j = i
      · rw [if_pos e, e]; exact hv
      · rw [if_neg e]; exact h j (by omega))
    rw [List.length_set] at h1 h2 h3
    refine ⟨l', h1, h2, Ev.step (f := fun k => (laws_markText.f k ((i + 1 : Nat) : Int)).bind fun t172 => (laws_markStringS.l0 k (l.set i t172) ((i + 1 + 1 : Nat) : Int) ((i + 1 : Nat) : Int))) (fun k => ?_) (Ev.bind hv h3)⟩
    simp only [laws_markStringS.l0]
    have h0 : (0 : Int) ≤ (i : Int) := by omega
    rw [if_pos (by omega)]
    simp only [if_pos h0]
    rw [succ64 (by omega), succ64 (by omega)]
    rfl
theorem markStringS (l : List ByteArray) (hl : l.length ≤ 1048576) : ∃ l' : List ByteArray, Ev (fun k => laws_markStringS.f k l 1) (((l.length + 1 : Nat) : Int), l') := by
  obtain ⟨l', _, _, h3⟩ := marks_l0 l.length 0 l (by omega) (by omega) (fun j hj => absurd hj (Nat.not_lt_zero j))
  exact ⟨l', h3⟩
theorem ev_mark {α : Type} (g : Nat → List α → Int → Int → Option (Int × List α)) (n : Nat) (N : Nat → Int) (P : Nat → α → Prop)
    (hs : ∀ i (acc : List α), i < n → acc.length = n → ∃ acc' : List α, acc'.length = n ∧ (∀ j, j < i → acc'[j]? = acc[j]?) ∧ (∃ v, acc'[i]? = some v ∧ P i v) ∧ ∀ k, g (k + 1) acc (N i) (i : Int) = g k acc' (N (i + 1)) ((i + 1 : Nat) : Int))
    (he : ∀ acc : List α, acc.length = n → ∀ k, g (k + 1) acc (N n) ((n : Nat) : Int) = some (N n, acc)) :
    ∀ d i (acc : List α), i + d = n → acc.length = n → (∀ j, j < i → ∃ v, acc[j]? = some v ∧ P j v) → ∃ l, Ev (fun k => g k acc (N i) (i : Int)) (N n, l) ∧ l.length = n ∧ ∀ j, j < n → ∃ v, l[j]? = some v ∧ P j v
  | 0, i, acc, h, hl, hq => by
    obtain rfl : i = n := by omega
    exact ⟨acc, Ev.step (f := fun _ => some (N i, acc)) (fun k => he acc hl k) (Ev.now _), hl, hq⟩
  | d + 1, i, acc, h, hl, hq => by
    obtain ⟨acc', h1, h2, h3, h4⟩ := hs i acc (by omega) hl
    obtain ⟨l, e, hll, hv⟩ := ev_mark g n N P hs he d (i + 1) acc' (by omega) h1 (fun j hj => by
      by_cases hji : j = i
      · subst hji; exact h3
      · rw [h2 j (by omega)]; exact hq j (by omega))
    exact ⟨l, Ev.step (fun k => h4 k) e, hll, hv⟩
theorem get_set_lt {α : Type} {acc : List α} {i j : Nat} {v : α} (h : j < i) : (acc.set i v)[j]? = acc[j]? := by
  rw [List.getElem?_set_ne (by omega)]
theorem get_set_self {α : Type} {acc : List α} {i : Nat} {v : α} (h : i < acc.length) : (acc.set i v)[i]? = some v := by
  rw [List.getElem?_set_self h]
theorem eqIntS (l : List Int) (hl : l.length ≤ 1048576) : Ev (fun k => laws_eqIntS.f k l l) true := by
  unfold laws_eqIntS.f
  refine Ev.congr (fun k => if_pos rfl) ?_
  have h := ev_all (fun k i => laws_eqIntS.l0 k l l i) (fun _ => true) l.length ?_ ?_ ?_ l.length 0 (Nat.zero_add _)
  · rwa [List.all_eq_true.2 (fun _ _ => rfl)] at h
  · intro i hi _ r hr
    refine Ev.step (fun k => ?_) hr
    simp only [laws_eqIntS.l0]
    rw [if_pos (Int.ofNat_lt.2 hi), if_pos (Int.natCast_nonneg _), if_pos (Int.ofNat_lt.2 hi), if_pos trivial, succ64 (by omega)]
  · intro i hi h
    simp at h
  · refine Ev.step (f := fun _ => some true) (fun k => ?_) (Ev.now _)
    simp only [laws_eqIntS.l0]
    rw [if_neg (Int.lt_irrefl _)]
def markedI (j : Nat) (v : Int) : Prop := v = ((1 + j : Nat) : Int)
theorem markIntS (l : List Int) (hl : l.length ≤ 1048576) : ∃ l', Ev (fun k => laws_markIntS.f k l 1) (((1 + l.length : Nat) : Int), l') ∧ l'.length = l.length ∧ ∀ j, j < l.length → ∃ v, l'[j]? = some v ∧ markedI j v := by
  unfold laws_markIntS.f
  have H := ev_mark (fun k acc x i => laws_markIntS.l0 k acc x i) l.length (fun i => ((1 + i : Nat) : Int)) markedI ?_ ?_ l.length 0 l (Nat.zero_add _) rfl (fun j hj => absurd hj (Nat.not_lt_zero j))
  · obtain ⟨l', h, hr⟩ := H
    exact ⟨l', h, hr⟩
  · intro i acc hi hn
    have hi' : i < acc.length := by omega
    refine ⟨acc.set i ((1 + i : Nat) : Int), by rw [List.length_set]; exact hn, fun j hj => get_set_lt hj, ⟨_, get_set_self hi', rfl⟩, fun k => ?_⟩
    simp only [laws_markIntS.l0]
    rw [if_pos (by rw [hn]; exact Int.ofNat_lt.2 hi), if_pos (Int.natCast_nonneg _), Int.toNat_natCast, succ64 (n := 1 + i) (by omega), succ64 (n := i) (by omega)]
    rfl
  · intro acc hn k
    simp only [laws_markIntS.l0]
    rw [hn, if_neg (Int.lt_irrefl _)]
theorem heldIntS (l : List Int) (n : Nat) (hn : l.length = n) (hl : n ≤ 1048576) (hv : ∀ j, j < n → ∃ v, l[j]? = some v ∧ markedI j v) : Ev (fun k => laws_heldIntS.f k l 1) ((1 + n : Nat) : Int) := by
  unfold laws_heldIntS.f
  have key : ∀ d i, i + d = n → Ev (fun k => laws_heldIntS.l0 k l ((1 + i : Nat) : Int) (i : Int)) ((1 + n : Nat) : Int) := by
    intro d
    induction d with
    | zero =>
      intro i h
      obtain rfl : i = n := by omega
      refine Ev.step (f := fun _ => some ((1 + i : Nat) : Int)) (fun k => ?_) (Ev.now _)
      simp only [laws_heldIntS.l0]
      rw [hn, if_neg (Int.lt_irrefl _)]
    | succ d ih =>
      intro i h
      have hi : i < l.length := by omega
      obtain ⟨v, hv1, hv2⟩ := hv i (by omega)
      rw [List.getElem?_eq_getElem hi] at hv1
      have hv3 : l[i] = ((1 + i : Nat) : Int) := (Option.some.inj hv1).trans hv2
      refine Ev.step (fun k => ?_) (ih (i + 1) (by omega))
      simp only [laws_heldIntS.l0]
      rw [if_pos (Int.ofNat_lt.2 hi), if_pos (Int.natCast_nonneg _), rd_get hi, hv3, if_pos rfl, succ64 (n := 1 + i) (by omega), succ64 (n := i) (by omega)]
      rfl
  exact key n 0 (Nat.zero_add _)
def movesR (ks : List Stt) (s : Stt) : List Int × Bool := if askK ks s = true then (ints (mvK ks s ks.length), true) else ([], false)
theorem movesR_len (ks : List Stt) (s : Stt) : (movesR ks s).1.length ≤ 1000 := by
  unfold movesR
  split
  · rename_i h
    obtain ⟨hk, _⟩ := ask_parts h
    have h1 := (keys_parts hk).1.2
    have h2 := mvK_len ks s ks.length
    show (ints (mvK ks s ks.length)).length ≤ 1000
    rw [ints_len]
    omega
  · exact Nat.zero_le _
theorem spec_moves (ks : List Stt) (s : Stt) (hn : ks.length ≤ 1048576) : Ev (fun k => spec_KeyedMoves.f k (ks.map tx) (tx s)) (movesR ks s) := by
  unfold spec_KeyedMoves.f movesR
  refine Ev.bind (keAsked ks s hn) ?_
  cases ha : askK ks s with
  | false => exact Ev.congr (fun k => if_neg (by simp)) (Ev.now _)
  | true =>
    obtain ⟨hk, hs⟩ := ask_parts ha
    exact Ev.congr (fun k => if_pos rfl) (Ev.bind (f := fun _ t => some (t, true)) (keMoves hk hs) (Ev.now _))
theorem impl_moves (ks : List Stt) (s : Stt) (hn : ks.length ≤ 1048576) : Ev (fun k => impl_KeyedMoves.f k (ks.map tx) (tx s)) (movesR ks s) := by
  unfold impl_KeyedMoves.f movesR
  refine Ev.bind (keyed_one ks s hn) ?_
  cases ha : askK ks s with
  | false => exact Ev.congr (fun k => if_neg (by simp)) (Ev.now _)
  | true =>
    obtain ⟨hk, hs⟩ := ask_parts ha
    exact Ev.congr (fun k => if_pos rfl) (Ev.bind (f := fun _ t => some (t, true)) (keyedMoves hk hs) (Ev.now _))
end Go.Proofs.YtbgkcbppkhakhaaDoor.Lem
namespace Go.Proofs.YtbgkcbppkhakhaaDoor.Pure
open Go.RowKit Go.Proofs.YtbgkcbppkhakhaaDoor.Lem Go.Proofs.YtbgkcbppkhakhaaDoor.PK Go.Proofs.YtbgkcbppkhakhaaDoorW.PrintWords Go.Proofs.YtbgkcbppkhakhaaDoorW.PrintLast Go.Proofs.YtbgkcbppkhakhaaDoorW.PrintMore

theorem FnExactKeyedMoves : laws_FnExactKeyedMoves.Pure := by
  intro L s hl hz _
  obtain ⟨t, ht, hc⟩ := szStringS L hl hz
  have key : Ev (fun k => laws_FnExactKeyedMoves.f k L s) true := by
    unfold laws_FnExactKeyedMoves.f
    by_cases d0 : (s.size : Int) > 1048576
    · exact Ev.congr (fun k => if_pos d0) (Ev.now _)
    refine Ev.congr (fun k => if_neg d0) ?_
    refine Ev.bind ht ?_
    by_cases c1 : t < 0
    · exact Ev.congr (fun k => if_pos c1) (Ev.now _)
    have hh := hc.resolve_left c1
    have h1 := toStringS L hh
    have h2 := eqStringS L hh
    obtain ⟨lm, h3⟩ := markStringS L hh
    obtain ⟨ks, rfl⟩ := as_tx L
    have hn : ks.length ≤ 1048576 := by rwa [List.length_map] at hh
    have e1 := spec_moves ks s.data.toList hn
    have e2 := impl_moves ks s.data.toList hn
    have hn9 := movesR_len ks s.data.toList
    rw [tx_self] at e1 e2
    generalize movesR ks s.data.toList = R at e1 e2 hn9
    have hq := eqIntS R.1 (by omega)
    obtain ⟨l', hm, hml, hmv⟩ := markIntS R.1 (by omega)
    have hld := heldIntS l' R.1.length hml (by omega) hmv
    refine Ev.congr (fun k => if_neg c1) (Ev.bind h1 (Ev.bind e1 (Ev.bind h1 (Ev.bind e2 (Ev.bind hq ?_)))))
    refine Ev.congr (fun k => by rw [if_pos rfl, bne_self_eq_false]) ?_
    refine Ev.step (fun k => by simp only [laws_FnExactKeyedMoves.j0]; rw [if_neg Bool.false_ne_true]) ?_
    refine Ev.bind h1 (Ev.bind h2 ?_)
    refine Ev.congr (fun k => if_pos rfl) (Ev.bind h3 ?_)
    refine Ev.congr (fun k => if_neg (show ¬ (((ks.map tx).length + 1 : Nat) : Int) < 0 by omega)) (Ev.bind hq ?_)
    refine Ev.congr (fun k => by rw [if_pos rfl, bne_self_eq_false]) ?_
    refine Ev.step (fun k => by simp only [laws_FnExactKeyedMoves.j1]; rw [if_neg Bool.false_ne_true]) ?_
    refine Ev.bind hm (Ev.bind hld ?_)
    refine Ev.congr (fun k => by rw [if_neg (show ¬ ((1 + R.1.length : Nat) : Int) < 0 by omega), if_pos rfl]) ?_
    refine Ev.bind h1 (Ev.bind e2 (Ev.bind hq ?_))
    refine Ev.congr (fun k => by rw [if_pos rfl, bne_self_eq_false]) ?_
    refine Ev.step (fun k => by simp only [laws_FnExactKeyedMoves.j2]; rw [if_neg Bool.false_ne_true]) ?_
    refine Ev.bind hld ?_
    refine Ev.congr (fun k => by rw [if_neg (show ¬ ((1 + R.1.length : Nat) : Int) < 0 by omega), if_pos rfl]) (Ev.now _)
  obtain ⟨K, h⟩ := key
  exact ⟨K, h K (Nat.le_refl _)⟩
end Go.Proofs.YtbgkcbppkhakhaaDoor.Pure
