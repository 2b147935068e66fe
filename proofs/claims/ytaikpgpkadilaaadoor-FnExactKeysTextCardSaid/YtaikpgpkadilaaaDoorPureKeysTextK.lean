/-
  The text of keys: the law holds.
-/
import Derived.Test.YtaikpgpkadilaaaDoorLemTextK
import Derived.Lib.Join
namespace Go.Proofs.YtaikpgpkadilaaaDoor.Lem
open Go.RowKit Go.Proofs.YtaikpgpkadilaaaDoor.PK Go.Proofs.YtaikpgpkadilaaaDoorW.PrintWords Go.Proofs.YtaikpgpkadilaaaDoorW.PrintLast Go.Proofs.YtaikpgpkadilaaaDoorW.PrintMore Go.Proofs.YtaikpgpkadilaaaDoor.Ring
set_option linter.unusedVariables false
set_option linter.unusedSimpArgs false

def txK (ks : List Stt) : Nat → Stt
  | 0 => []
  | i + 1 => (txK ks i ++ (if i = 0 then [] else [47])) ++ ks.getD i []
theorem txK_cons (x : Stt) (r : List Stt) : ∀ i, i ≤ r.length → txK (x :: r) (i + 1) = x ++ Go.Lib.joinTail [47] (r.take i)
  | 0, _ => by simp [txK, Go.Lib.joinTail]
  | i + 1, h => by
    have ih := txK_cons x r i (by omega)
    have hi : i < r.length := by omega
    show (txK (x :: r) (i + 1) ++ (if i + 1 = 0 then [] else [47])) ++ (x :: r).getD (i + 1) [] = _
    rw [ih, List.take_succ_eq_append_getElem hi]
    have e : (x :: r).getD (i + 1) [] = r[i] := by simp [List.getD, hi]
    have j : ∀ (a : List Stt) (y : Stt), Go.Lib.joinTail [47] (a ++ [y]) = Go.Lib.joinTail [47] a ++ 47 :: y := by
      intro a y
      simp [Go.Lib.joinTail]
    rw [e, j, if_neg (Nat.succ_ne_zero i)]
    rw [List.append_assoc, List.append_assoc]
    rfl
theorem txK_join (ks : List Stt) (h : 1 ≤ ks.length) : txK ks ks.length = Go.Lib.join ks [47] := by
  cases ks with
  | nil => simp at h
  | cons x r =>
    rw [Go.Lib.join_cons]
    have := txK_cons x r r.length (Nat.le_refl _)
    rw [List.take_length] at this
    exact this
theorem txK_len {ks : List Stt} (hk : keysOk ks = true) : ∀ i, i ≤ ks.length → (txK ks i).length ≤ 11 * i
  | 0, _ => Nat.le_refl _
  | i + 1, h => by
    obtain ⟨⟨k1, k2⟩, k3⟩ := keys_parts hk
    have ih := txK_len hk i (by omega)
    have hi : i < ks.length := by omega
    have h3 := (k3 i hi).1
    show ((txK ks i ++ (if i = 0 then [] else [47])) ++ ks.getD i []).length ≤ _
    rw [List.length_append, List.length_append, getD_get hi, h3]
    split <;> simp <;> omega
theorem app_tx (a b : Stt) : tx a ++ tx b = tx (a ++ b) := by
  apply ba_ext
  rw [ByteArray.data_append, Array.toList_append, tx_data, tx_data, tx_data]
theorem keText {ks : List Stt} (hk : keysOk ks = true) : Ev (fun k => spec_keText.f k (ks.map tx)) (tx (txK ks ks.length)) := by
  obtain ⟨⟨k1, k2⟩, k3⟩ := keys_parts hk
  have key : ∀ d i, i + d = ks.length → Ev (fun k => spec_keText.l0 k (tx (txK ks i)) (ks.map tx) (ks.length : Int) (i : Int)) (tx (txK ks ks.length)) := by
    intro d
    induction d with
    | zero =>
      intro i hi
      obtain rfl : i = ks.length := by omega
      refine Ev.step (f := fun _ => some (tx (txK ks ks.length))) (fun k => ?_) (Ev.now _)
      simp only [spec_keText.l0]
      rw [if_neg (Int.lt_irrefl _)]
    | succ d ih =>
      intro i hi
      have hil : i < ks.length := by omega
      have hlen := txK_len hk i (by omega)
      have h3 := (k3 i hil).1
      have hs : txK ks (i + 1) = (txK ks i ++ (if i = 0 then [] else [47])) ++ ks[i] := by
        show (txK ks i ++ (if i = 0 then [] else [47])) ++ ks.getD i [] = _
        rw [getD_get hil]
      refine Ev.step (fun k => ?_) (ih (i + 1) (by omega))
      simp only [spec_keText.l0]
      rw [if_pos (Int.ofNat_lt.2 hil), if_pos (Int.natCast_nonneg _), if_pos (show (i : Int) < ((ks.map tx).length : Int) by rw [List.length_map]; exact Int.ofNat_lt.2 hil), rdK hil, succ64 (by omega), hs]
      by_cases h0 : i = 0
      · rw [if_neg (by omega), tx_size, tx_size, if_pos (by omega), if_pos h0, List.append_nil, app_tx]
      · rw [if_pos (by omega), tx_size, if_pos (by omega), if_neg h0]
        have e : tx (txK ks i) ++ (⟨#[47]⟩ : ByteArray) = tx (txK ks i ++ [47]) := app_tx _ [47]
        rw [e, tx_size, tx_size, if_pos (by rw [List.length_append, List.length_singleton]; omega), app_tx]
  have h := key ks.length 0 (Nat.zero_add _)
  unfold spec_keText.f
  rw [List.length_map]
  exact h
theorem both_text (ks : List Stt) (hn : ks.length ≤ 1048576) : ∃ R, Ev (fun k => spec_KeysText.f k (ks.map tx)) R ∧ Ev (fun k => impl_KeysText.f k (ks.map tx)) R := by
  refine ⟨if keysOk ks = true then (tx (txK ks ks.length), true) else (⟨#[]⟩, false), ?_, ?_⟩
  · unfold spec_KeysText.f
    refine Ev.bind (keGood ks hn) ?_
    cases hk : keysOk ks with
    | false => exact Ev.congr (fun k => if_neg (by simp)) (Ev.now _)
    | true => exact Ev.congr (fun k => if_pos rfl) (Ev.bind (f := fun _ t => some (t, true)) (keText hk) (Ev.now _))
  · unfold impl_KeysText.f
    refine Ev.bind (areKeys ks hn) ?_
    cases hk : keysOk ks with
    | false => exact Ev.congr (fun k => if_neg (by simp)) (Ev.now _)
    | true =>
      obtain ⟨⟨k1, k2⟩, k3⟩ := keys_parts hk
      have hj : strings_Join.f (ks.map tx) (⟨#[47]⟩ : ByteArray) = some (tx (txK ks ks.length)) := by
        have e1 : (ks.map tx).map (·.data.toList) = ks := by
          rw [List.map_map]
          have : ((fun b : ByteArray => b.data.toList) ∘ tx) = id := by funext s; exact tx_data s
          rw [this, List.map_id]
        have e2 : Go.Lib.join ((ks.map tx).map (·.data.toList)) (⟨#[47]⟩ : ByteArray).data.toList = txK ks ks.length := by
          rw [e1, txK_join ks k1]
        have h9 := txK_len hk ks.length (Nat.le_refl _)
        unfold strings_Join.f
        rw [e2, List.length_map, if_pos ⟨k1, by omega, by omega⟩]
        rfl
      exact Ev.congr (fun k => by rw [if_pos rfl, hj, obind, if_pos rfl]) (Ev.now _)
end Go.Proofs.YtaikpgpkadilaaaDoor.Lem
namespace Go.Proofs.YtaikpgpkadilaaaDoor.Pure
open Go.RowKit Go.Proofs.YtaikpgpkadilaaaDoor.Lem Go.Proofs.YtaikpgpkadilaaaDoor.PK Go.Proofs.YtaikpgpkadilaaaDoorW.PrintWords Go.Proofs.YtaikpgpkadilaaaDoorW.PrintLast Go.Proofs.YtaikpgpkadilaaaDoorW.PrintMore

theorem FnExactKeysText : laws_FnExactKeysText.Pure := by
  intro L hl hz
  obtain ⟨t, ht, hc⟩ := szStringS L hl hz
  have key : Ev (fun k => laws_FnExactKeysText.f k L) true := by
    unfold laws_FnExactKeysText.f
    refine Ev.bind ht ?_
    by_cases c1 : t < 0
    · exact Ev.congr (fun k => if_pos c1) (Ev.now _)
    have hh := hc.resolve_left c1
    have h1 := toStringS L hh
    have h2 := eqStringS L hh
    obtain ⟨ks, rfl⟩ := as_tx L
    obtain ⟨R, e1, e2⟩ := both_text ks (by rwa [List.length_map] at hh)
    refine Ev.congr (fun k => if_neg c1) (Ev.bind h1 (Ev.bind e1 (Ev.bind h1 (Ev.bind e2 ?_))))
    refine Ev.congr (fun k => by rw [if_pos rfl, bne_self_eq_false]) ?_
    refine Ev.step (fun k => by simp only [laws_FnExactKeysText.j0]; rw [if_neg Bool.false_ne_true]) (Ev.bind h1 ?_)
    exact Ev.bind h2 (Ev.congr (fun k => if_pos rfl) (Ev.now _))
  obtain ⟨K, h⟩ := key
  exact ⟨K, h K (Nat.le_refl _)⟩
end Go.Proofs.YtaikpgpkadilaaaDoor.Pure
