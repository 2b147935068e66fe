/-
  Turned keys: the law holds.
-/
import Derived.Test.YthjkjlfobgegpaaDoorLemStrSK
import Derived.Test.YthjkjlfobgegpaaDoorPKx4
namespace Go.Proofs.YthjkjlfobgegpaaDoor.Lem
open Go.RowKit Go.Proofs.YthjkjlfobgegpaaDoor.PK Go.Proofs.YthjkjlfobgegpaaDoorW.PrintWords Go.Proofs.YthjkjlfobgegpaaDoorW.PrintLast Go.Proofs.YthjkjlfobgegpaaDoorW.PrintMore Go.Proofs.YthjkjlfobgegpaaDoor.Ring
set_option linter.unusedVariables false
set_option linter.unusedSimpArgs false

theorem keBack (key : Stt) (h : key.length ≤ 1000) : Ev (fun k => spec_keBack.f k (tx key)) (tx key.reverse) := by
  have go : ∀ d i, i + d = key.length → Ev (fun k => spec_keBack.l0 k (tx key) (tx (key.take i).reverse) (i : Int)) (tx key.reverse) := by
    intro d
    induction d with
    | zero =>
      intro i hi
      obtain rfl : i = key.length := by omega
      refine Ev.step (f := fun _ => some (tx key.reverse)) (fun k => ?_) (Ev.now _)
      simp only [spec_keBack.l0]
      rw [tx_size, if_neg (Int.lt_irrefl _), List.take_length]
    | succ d ih =>
      intro i hi
      have hil : i < key.length := by omega
      have e1 : (tx key).extract i (i + 1) = tx [key[i]] := by
        rw [cut_tx, List.take_succ_eq_append_getElem hil, List.drop_append, List.drop_of_length_le (by rw [List.length_take]; omega), List.length_take, Nat.min_eq_left (by omega), Nat.sub_self]
        rfl
      have e2 : tx [key[i]] ++ tx (key.take i).reverse = tx (key.take (i + 1)).reverse := by
        rw [app_tx, List.take_succ_eq_append_getElem hil, List.reverse_append]
        rfl
      have hsz : (tx [key[i]]).size + (tx (key.take i).reverse).size ≤ 9223372036854775807 := by
        rw [tx_size, tx_size, List.length_singleton, List.length_reverse, List.length_take]
        omega
      refine Ev.step (fun k => ?_) (ih (i + 1) (by omega))
      simp only [spec_keBack.l0]
      rw [tx_size, if_pos (Int.ofNat_lt.2 hil), if_pos (Int.natCast_nonneg _), succ64 (by omega), if_pos (Int.ofNat_le.2 (Nat.le_succ i)), if_pos (Int.ofNat_le.2 hil), Int.toNat_natCast, Int.toNat_natCast, e1, if_pos hsz, e2]
  have := go key.length 0 (Nat.zero_add _)
  unfold spec_keBack.f
  exact this
theorem reversed (key : Stt) (h : key.length ≤ 1000) : impl_reversed.f (tx key) = some (tx key.reverse) := by
  unfold impl_reversed.f
  rw [tx_size, if_pos (by omega), tx_data]
  rfl
/-- The keys from number j on, turned, the last one first. -/
def tnK (ks : List Stt) (j : Nat) : List ByteArray := (ks.drop j).reverse.map (fun key => tx key.reverse)
theorem tnK_len (ks : List Stt) (j : Nat) : (tnK ks j).length ≤ ks.length := by
  unfold tnK
  rw [List.length_map, List.length_reverse, List.length_drop]
  omega
theorem tnK_step (ks : List Stt) (j : Nat) (h : j < ks.length) : tnK ks (j + 1) ++ [tx ks[j].reverse] = tnK ks j := by
  unfold tnK
  rw [List.drop_eq_getElem_cons h, List.reverse_cons, List.map_append]
  rfl
theorem pred_w (j : Nat) (h : j ≤ 2097152) : wrap64 ((j : Int) - 1) = (j : Int) - 1 := w64 (by omega) (by omega)
theorem both_turn (ks : List Stt) (hn : ks.length ≤ 1048576) : ∃ R, R.1.length ≤ 1048576 ∧ Ev (fun k => spec_TurnKeys.f k (ks.map tx)) R ∧ Ev (fun k => impl_TurnKeys.f k (ks.map tx)) R := by
  cases hk : keysOk ks with
  | false =>
    refine ⟨([], false), Nat.zero_le _, ?_, ?_⟩
    · unfold spec_TurnKeys.f
      refine Ev.bind (keGood ks (by omega)) ?_
      rw [hk]
      exact Ev.congr (fun k => if_neg (by simp)) (Ev.now _)
    · unfold impl_TurnKeys.f
      refine Ev.bind (areKeys ks (by omega)) ?_
      rw [hk]
      exact Ev.congr (fun k => if_neg (by simp)) (Ev.now _)
  | true =>
    obtain ⟨⟨k1, k2⟩, k3⟩ := keys_parts hk
    refine ⟨(tnK ks 0, true), Nat.le_trans (tnK_len ks 0) hn, ?_, ?_⟩
    · have go : ∀ j, j ≤ ks.length → Ev (fun k => spec_TurnKeys.l0 k (ks.map tx) (tnK ks j) ((j : Int) - 1)) (tnK ks 0, true) := by
        intro j
        induction j with
        | zero =>
          intro _
          refine Ev.step (f := fun _ => some (tnK ks 0, true)) (fun k => ?_) (Ev.now _)
          simp only [spec_TurnKeys.l0]
          rw [if_neg (by omega)]
        | succ j ih =>
          intro hj
          have hl : (ks[j]).length ≤ 1000 := by rw [(k3 j hj).1]; omega
          have h9 := tnK_len ks (j + 1)
          have e : ((j + 1 : Nat) : Int) - 1 = (j : Int) := by omega
          refine Ev.step (f := fun k => (spec_keBack.f k (tx ks[j])).bind fun t => spec_TurnKeys.l0 k (ks.map tx) (tnK ks (j + 1) ++ [t]) ((j : Int) - 1)) (fun k => ?_) (Ev.bind (keBack _ hl) ?_)
          · simp only [spec_TurnKeys.l0]
            rw [e, if_pos (show (j : Int) ≥ 0 from Int.natCast_nonneg j), if_pos (Int.natCast_nonneg j), List.length_map, if_pos (Int.ofNat_lt.2 hj), rdK hj, pred_w j (by omega)]
            simp only [if_pos (show (tnK ks (j + 1)).length < 8796093022208 by omega)]
          · rw [tnK_step ks j hj]
            exact ih (by omega)
      unfold spec_TurnKeys.f
      refine Ev.bind (keGood ks (by omega)) ?_
      rw [hk]
      refine Ev.congr (fun k => if_pos rfl) ?_
      rw [List.length_map, pred_w ks.length (by omega)]
      have h0 := go ks.length (Nat.le_refl _)
      have e0 : tnK ks ks.length = [] := by unfold tnK; rw [List.drop_length]; rfl
      rw [e0] at h0
      exact h0
    · have go : ∀ j, j ≤ ks.length → Ev (fun k => impl_TurnKeys.l0 k (ks.map tx) (tnK ks j) ((j : Int) - 1)) (tnK ks 0, true) := by
        intro j
        induction j with
        | zero =>
          intro _
          refine Ev.step (f := fun _ => some (tnK ks 0, true)) (fun k => ?_) (Ev.now _)
          simp only [impl_TurnKeys.l0]
          rw [if_neg (by omega)]
        | succ j ih =>
          intro hj
          have hl : (ks[j]).length ≤ 1000 := by rw [(k3 j hj).1]; omega
          have h9 := tnK_len ks (j + 1)
          have e : ((j + 1 : Nat) : Int) - 1 = (j : Int) := by omega
          refine Ev.step (fun k => ?_) (ih (by omega))
          simp only [impl_TurnKeys.l0]
          rw [e, if_pos (show (j : Int) ≥ 0 from Int.natCast_nonneg j), if_pos (Int.natCast_nonneg j), List.length_map, if_pos (Int.ofNat_lt.2 hj), rdK hj, pred_w j (by omega), reversed _ hl, obind, if_pos (show (tnK ks (j + 1)).length < 8796093022208 by omega), tnK_step ks j hj]
      unfold impl_TurnKeys.f
      refine Ev.bind (areKeys ks (by omega)) ?_
      rw [hk]
      refine Ev.congr (fun k => if_pos rfl) ?_
      rw [List.length_map, pred_w ks.length (by omega)]
      have h0 := go ks.length (Nat.le_refl _)
      have e0 : tnK ks ks.length = [] := by unfold tnK; rw [List.drop_length]; rfl
      rw [e0] at h0
      exact h0
end Go.Proofs.YthjkjlfobgegpaaDoor.Lem
namespace Go.Proofs.YthjkjlfobgegpaaDoor.Pure
open Go.RowKit Go.Proofs.YthjkjlfobgegpaaDoor.Lem Go.Proofs.YthjkjlfobgegpaaDoor.PK Go.Proofs.YthjkjlfobgegpaaDoorW.PrintWords Go.Proofs.YthjkjlfobgegpaaDoorW.PrintLast Go.Proofs.YthjkjlfobgegpaaDoorW.PrintMore

theorem FnExactTurnKeys : laws_FnExactTurnKeys.Pure := by
  intro L hl hz
  obtain ⟨t, ht, hc⟩ := szStringS L hl hz
  have key : Ev (fun k => laws_FnExactTurnKeys.f k L) true := by
    unfold laws_FnExactTurnKeys.f
    refine Ev.bind ht ?_
    by_cases c1 : t < 0
    · exact Ev.congr (fun k => if_pos c1) (Ev.now _)
    have hh := hc.resolve_left c1
    have h1 := toStringS L hh
    have h2 := eqStringS L hh
    obtain ⟨ml, hm1, hm2⟩ := marks L (by omega)
    obtain ⟨ks, rfl⟩ := as_tx L
    obtain ⟨R, hR, e1, e2⟩ := both_turn ks (by rwa [List.length_map] at hh)
    have he := eqStringS R.1 hR
    obtain ⟨mr, hn1, hn2⟩ := marks R.1 (by omega)
    have hne : (R.2 != R.2) = false := by rw [bne_self_eq_false]
    refine Ev.congr (fun k => if_neg c1) (Ev.bind h1 (Ev.bind e1 (Ev.bind h1 (Ev.bind e2 (Ev.bind he ?_)))))
    refine Ev.congr (fun k => by rw [if_pos rfl, hne]) ?_
    refine Ev.step (fun k => by simp only [laws_FnExactTurnKeys.j0]; rw [if_neg Bool.false_ne_true]) (Ev.bind h1 (Ev.bind h2 ?_))
    refine Ev.congr (fun k => if_pos rfl) (Ev.bind hm1 ?_)
    refine Ev.congr (fun k => if_neg (by omega)) (Ev.bind he ?_)
    refine Ev.congr (fun k => by rw [if_pos rfl, hne]) ?_
    refine Ev.step (fun k => by simp only [laws_FnExactTurnKeys.j1]; rw [if_neg Bool.false_ne_true]) (Ev.bind hn1 (Ev.bind hn2 ?_))
    refine Ev.congr (fun k => by rw [if_neg (by omega), if_pos rfl]) (Ev.bind h1 (Ev.bind e2 (Ev.bind he ?_)))
    refine Ev.congr (fun k => by rw [if_pos rfl, hne]) ?_
    refine Ev.step (fun k => by simp only [laws_FnExactTurnKeys.j2]; rw [if_neg Bool.false_ne_true]) (Ev.bind hn2 ?_)
    exact Ev.congr (fun k => by rw [if_neg (by omega), if_pos rfl]) (Ev.now _)
  obtain ⟨K, h⟩ := key
  exact ⟨K, h K (Nat.le_refl _)⟩
end Go.Proofs.YthjkjlfobgegpaaDoor.Pure
