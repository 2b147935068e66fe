/-
  The fewest moves by keys: the law holds.
-/
import Derived.Test.YtbgkcbppkhakhaaDoorLemKeyLawK
namespace Go.Proofs.YtbgkcbppkhakhaaDoor.Lem
open Go.RowKit Go.Proofs.YtbgkcbppkhakhaaDoor.PK Go.Proofs.YtbgkcbppkhakhaaDoorW.PrintWords Go.Proofs.YtbgkcbppkhakhaaDoorW.PrintLast Go.Proofs.YtbgkcbppkhakhaaDoorW.PrintMore Go.Proofs.YtbgkcbppkhakhaaDoor.Ring Go.Proofs.YtbgkcbppkhakhaaDoor.Bfs
set_option linter.unusedVariables false
set_option linter.unusedSimpArgs false

def ansO : Option Nat → Int × Bool
  | none => (0, false)
  | some n => ((n : Int), true)
theorem both_few (ks : List Stt) (s t : Stt) (hn : ks.length ≤ 1048576) : ∃ R, Ev (fun k => spec_FewestKeyed.f k (ks.map tx) (tx s) (tx t)) R ∧ Ev (fun k => impl_FewestKeyed.f k (ks.map tx) (tx s) (tx t)) R := by
  refine ⟨if (askK ks s && askK ks t) = true then ansO ((foundK ks s).far t) else (0, false), ?_, ?_⟩
  · unfold spec_FewestKeyed.f
    refine Ev.bind (keTwo ks s t hn) ?_
    cases ha : (askK ks s && askK ks t) with
    | false => exact Ev.congr (fun k => if_neg (by simp)) (Ev.now _)
    | true =>
      rw [if_pos rfl]
      rw [Bool.and_eq_true] at ha
      obtain ⟨hk, hs⟩ := ask_parts ha.1
      obtain ⟨_, ht⟩ := ask_parts ha.2
      obtain ⟨F, W, hF, h⟩ := keFar hk ht
      have hnt : ((num s : Nat) : Int) < (F.length : Int) := by rw [hF.1]; exact Int.ofNat_lt.2 (numN_lt hs)
      have hrF : rd F ((num s : Nat) : Int) = fz ((foundK ks s).far t) := by rw [← found_sym hk hs ht]; exact hF.2 s hs
      refine Ev.congr (fun k => if_pos rfl) (Ev.bind h (Ev.bind (riNum (keys_parts hk).1.2 hs) ?_))
      refine Ev.congr (fun k => by rw [if_pos (Int.natCast_nonneg _), if_pos hnt, hrF]) ?_
      cases (foundK ks s).far t with
      | none => exact Ev.congr (fun k => if_pos (by decide)) (Ev.now _)
      | some v => exact Ev.congr (fun k => if_neg (by rw [fz_neg]; simp)) (Ev.now _)
  · unfold impl_FewestKeyed.f
    refine Ev.bind (keyed_two ks s t hn) ?_
    cases ha : (askK ks s && askK ks t) with
    | false => exact Ev.congr (fun k => if_neg (by simp)) (Ev.now _)
    | true =>
      rw [if_pos rfl]
      rw [Bool.and_eq_true] at ha
      obtain ⟨hk, hs⟩ := ask_parts ha.1
      obtain ⟨_, ht⟩ := ask_parts ha.2
      have hn10 := (keys_parts hk).1.2
      refine Ev.congr (fun k => by rw [if_pos rfl, if_pos ⟨ok_smallK hn10 hs, ok_smallK hn10 ht⟩]) (Ev.bind (f := fun _ (q : List ByteArray × (ByteArray → Option Int) × (ByteArray → Option Int)) => some ((q.2.1 (tx t)).getD 0, (q.2.1 (tx t)).isSome)) (search_runK hk s hs) (Ev.congr (fun k => ?_) (Ev.now _)))
      show some ((fB (foundK ks s) (tx t)).getD 0, (fB (foundK ks s) (tx t)).isSome) = _
      rw [fB_tx]
      cases (foundK ks s).far t <;> rfl
end Go.Proofs.YtbgkcbppkhakhaaDoor.Lem
namespace Go.Proofs.YtbgkcbppkhakhaaDoor.Pure
open Go.RowKit Go.Proofs.YtbgkcbppkhakhaaDoor.Lem Go.Proofs.YtbgkcbppkhakhaaDoor.PK Go.Proofs.YtbgkcbppkhakhaaDoorW.PrintWords Go.Proofs.YtbgkcbppkhakhaaDoorW.PrintLast Go.Proofs.YtbgkcbppkhakhaaDoorW.PrintMore

theorem FnExactFewestKeyed : laws_FnExactFewestKeyed.Pure := by
  intro L s u hl hz _ _
  obtain ⟨t, ht, hc⟩ := szStringS L hl hz
  have key : Ev (fun k => laws_FnExactFewestKeyed.f k L s u) true := by
    unfold laws_FnExactFewestKeyed.f
    by_cases d0 : (s.size : Int) > 1048576
    · exact Ev.congr (fun k => if_pos d0) (Ev.now _)
    refine Ev.congr (fun k => if_neg d0) ?_
    by_cases d1 : (u.size : Int) > 1048576
    · exact Ev.congr (fun k => if_pos d1) (Ev.now _)
    refine Ev.congr (fun k => if_neg d1) ?_
    refine Ev.bind ht ?_
    by_cases c1 : t < 0
    · exact Ev.congr (fun k => if_pos c1) (Ev.now _)
    have hh := hc.resolve_left c1
    have h1 := toStringS L hh
    have h2 := eqStringS L hh
    obtain ⟨ks, rfl⟩ := as_tx L
    obtain ⟨R, e1, e2⟩ := both_few ks s.data.toList u.data.toList (by rwa [List.length_map] at hh)
    rw [tx_self, tx_self] at e1 e2
    refine Ev.congr (fun k => if_neg c1) (Ev.bind h1 (Ev.bind e1 (Ev.bind h1 (Ev.bind e2 ?_))))
    refine Ev.congr (fun k => by rw [if_pos rfl, bne_self_eq_false]) ?_
    refine Ev.step (fun k => by simp only [laws_FnExactFewestKeyed.j0]; rw [if_neg Bool.false_ne_true]) (Ev.bind h1 ?_)
    exact Ev.bind h2 (Ev.congr (fun k => if_pos rfl) (Ev.now _))
  obtain ⟨K, h⟩ := key
  exact ⟨K, h K (Nat.le_refl _)⟩
end Go.Proofs.YtbgkcbppkhakhaaDoor.Pure
