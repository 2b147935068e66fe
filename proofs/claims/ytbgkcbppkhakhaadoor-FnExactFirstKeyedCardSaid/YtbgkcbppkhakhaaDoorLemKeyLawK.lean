/-
  The laws' copies and comparisons of keys.
-/
import Derived.Test.YtbgkcbppkhakhaaDoorLemKeFarK
namespace Go.Proofs.YtbgkcbppkhakhaaDoor.Lem
open Go.RowKit Go.Proofs.YtbgkcbppkhakhaaDoor.PK Go.Proofs.YtbgkcbppkhakhaaDoorW.PrintWords Go.Proofs.YtbgkcbppkhakhaaDoorW.PrintLast Go.Proofs.YtbgkcbppkhakhaaDoorW.PrintMore
set_option linter.unusedVariables false
set_option linter.unusedSimpArgs false

theorem ev_copy {α : Type} (g : Nat → List α → Int → Option (List α)) (src : List α)
    (hs : ∀ i (hi : i < src.length) (acc : List α), acc.length = src.length → ∀ k, g (k + 1) acc (i : Int) = g k (acc.set i src[i]) ((i + 1 : Nat) : Int))
    (he : ∀ acc : List α, ∀ k, g (k + 1) acc ((src.length : Nat) : Int) = some acc) :
    ∀ d i acc, i + d = src.length → acc.length = src.length → acc.take i = src.take i → Ev (fun k => g k acc (i : Int)) src
  | 0, i, acc, h, hl, ht => by
    obtain rfl : i = src.length := by omega
    rw [List.take_length, ← hl, List.take_length] at ht
    subst ht
    exact Ev.step (f := fun _ => some acc) (fun k => he acc k) (Ev.now _)
  | d + 1, i, acc, h, hl, ht => by
    have hi : i < src.length := by omega
    refine Ev.step (fun k => hs i hi acc hl k) (ev_copy g src hs he d (i + 1) (acc.set i src[i]) (by omega) (by rw [List.length_set]; exact hl) ?_)
    rw [List.take_succ_eq_append_getElem (by rw [List.length_set, hl]; exact hi), List.take_set_of_le (Nat.le_refl i), ht, List.getElem_set_self, ← List.take_succ_eq_append_getElem hi]

theorem toStringS (l : List ByteArray) (hl : l.length ≤ 1048576) : Ev (fun k => laws_toStringS.f k l) l := by
  unfold laws_toStringS.f
  refine Ev.congr (fun k => by rw [if_pos (Int.natCast_nonneg _), Int.toNat_natCast, if_pos (Nat.le_trans hl (by decide))]) ?_
  refine ev_copy (fun k acc i => laws_toStringS.l0 k l acc i) l (fun i hi acc ha k => ?_) (fun acc k => ?_) l.length 0 _ (Nat.zero_add _) (List.length_replicate ..) rfl
  · simp only [laws_toStringS.l0]
    rw [if_pos (Int.ofNat_lt.2 hi), if_pos (Int.natCast_nonneg _), if_pos (by rw [ha]; exact Int.ofNat_lt.2 hi), rdS_get hi, Int.toNat_natCast, succ64 (by omega)]
  · simp only [laws_toStringS.l0]
    rw [if_neg (Int.lt_irrefl _)]
theorem eqStringS (l : List ByteArray) (hl : l.length ≤ 1048576) : Ev (fun k => laws_eqStringS.f k l l) true := by
  unfold laws_eqStringS.f
  refine Ev.congr (fun k => if_pos rfl) ?_
  have h := ev_all (fun k i => laws_eqStringS.l0 k l l i) (fun _ => true) l.length ?_ ?_ ?_ l.length 0 (Nat.zero_add _)
  · rwa [List.all_eq_true.2 (fun _ _ => rfl)] at h
  · intro i hi _ r hr
    refine Ev.step (fun k => ?_) hr
    simp only [laws_eqStringS.l0]
    rw [if_pos (Int.ofNat_lt.2 hi), if_pos (Int.natCast_nonneg _), if_pos (Int.ofNat_lt.2 hi), if_pos trivial, succ64 (by omega)]
  · intro i hi h
    simp at h
  · refine Ev.step (f := fun _ => some true) (fun k => ?_) (Ev.now _)
    simp only [laws_eqStringS.l0]
    rw [if_neg (Int.lt_irrefl _)]
/-- What the law's sizes let through. -/
theorem szStringS (l : List ByteArray) (hl : l.length ≤ maxLen) (hs : ∀ x ∈ l, x.size ≤ maxLen) : ∃ t, Ev (fun k => laws_szStringS.f k l 1048576) t ∧ (t < 0 ∨ l.length ≤ 1048576) := by
  have hm : maxLen ≤ 9223372036854775807 := by decide
  unfold laws_szStringS.f
  rw [w64 (n := 1048576 - (l.length : Int)) (by omega) (by omega)]
  by_cases h1 : (1048576 : Int) - (l.length : Int) < 0
  · exact ⟨-1, Ev.congr (fun k => if_pos h1) (Ev.now _), Or.inl (by decide)⟩
  · have hlen : l.length ≤ 1048576 := by omega
    have key : ∀ d i (x : Int), i + d = l.length → 0 ≤ x → x ≤ 1048576 → ∃ t, Ev (fun k => laws_szStringS.l0 k l x (i : Int)) t := by
      intro d
      induction d with
      | zero =>
        intro i x hi _ _
        refine ⟨x, Ev.step (f := fun _ => some x) (fun k => ?_) (Ev.now _)⟩
        simp only [laws_szStringS.l0]
        rw [if_neg (fun h => by have := Int.ofNat_lt.1 h; omega)]
      | succ d ih =>
        intro i x hi h0 h9
        have hil : i < l.length := by omega
        obtain ⟨n, hn⟩ : ∃ n, (l[i]).size = n := ⟨_, rfl⟩
        have hsz : n ≤ maxLen := by rw [← hn]; exact hs _ (List.getElem_mem hil)
        have hw : wrap64 (x - (n : Int)) = x - (n : Int) := w64 (by omega) (by omega)
        by_cases hc : x - (n : Int) < 0
        · refine ⟨-1, Ev.step (f := fun _ => some (-1)) (fun k => ?_) (Ev.now _)⟩
          simp only [laws_szStringS.l0]
          rw [if_pos (Int.ofNat_lt.2 hil), if_pos (Int.natCast_nonneg _), rdS_get hil, hn, hw, if_pos hc]
        · obtain ⟨t, ht⟩ := ih (i + 1) (x - (n : Int)) (by omega) (by omega) (by omega)
          refine ⟨t, Ev.step (fun k => ?_) ht⟩
          simp only [laws_szStringS.l0]
          rw [if_pos (Int.ofNat_lt.2 hil), if_pos (Int.natCast_nonneg _), rdS_get hil, hn, hw, if_neg hc, succ64 (by omega)]
    obtain ⟨t, ht⟩ := key l.length 0 (1048576 - (l.length : Int)) (Nat.zero_add _) (by omega) (by omega)
    exact ⟨t, Ev.congr (fun k => if_neg h1) ht, Or.inr hlen⟩
theorem as_tx (l : List ByteArray) : ∃ ks : List Stt, l = ks.map tx := ⟨l.map (fun b => b.data.toList), by
  rw [List.map_map]
  have : (tx ∘ fun b : ByteArray => b.data.toList) = id := by funext b; exact tx_self b
  rw [this, List.map_id]⟩
end Go.Proofs.YtbgkcbppkhakhaaDoor.Lem
