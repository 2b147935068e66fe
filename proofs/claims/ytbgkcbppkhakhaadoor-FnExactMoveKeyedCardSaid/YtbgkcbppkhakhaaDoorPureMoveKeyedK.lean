/-
  A move by keys: the law holds.
-/
import Derived.Test.YtbgkcbppkhakhaaDoorPureFitsKeyK
namespace Go.Proofs.YtbgkcbppkhakhaaDoor.Lem
open Go.RowKit Go.Proofs.YtbgkcbppkhakhaaDoor.PK Go.Proofs.YtbgkcbppkhakhaaDoorW.PrintWords Go.Proofs.YtbgkcbppkhakhaaDoorW.PrintLast Go.Proofs.YtbgkcbppkhakhaaDoorW.PrintMore Go.Proofs.YtbgkcbppkhakhaaDoor.Ring Go.Proofs.YtbgkcbppkhakhaaDoor.Bfs
set_option linter.unusedVariables false
set_option linter.unusedSimpArgs false

theorem both_move (ks : List Stt) (s : Stt) (x : Int) (hn : ks.length ≤ 1048576) : ∃ R, Ev (fun k => spec_MoveKeyed.f k (ks.map tx) (tx s) x) R ∧ Ev (fun k => impl_MoveKeyed.f k (ks.map tx) (tx s) x) R := by
  by_cases c : askK ks s = true ∧ 0 ≤ x ∧ x < (ks.length : Int)
  · obtain ⟨hk, hs⟩ := ask_parts c.1
    obtain ⟨k1, k2, k3⟩ := key_at hk hs c.2.1 c.2.2
    have h1 := keAsked ks s hn
    have h2 := keyed_one ks s hn
    rw [c.1] at h1 h2
    have hx : ∃ n : Nat, x = (n : Int) ∧ n < s.length := by
      obtain ⟨n, hxn⟩ := Int.eq_ofNat_of_zero_le c.2.1
      exact ⟨n, hxn, by rw [hs.1]; have := c.2.2; omega⟩
    obtain ⟨n, rfl, hns⟩ := hx
    have hm := riMove s (by omega) hs.2 n hns
    have ht := turned s (by omega) hs.2 n hns
    have hf := keFits _ s k1 k2 (by omega)
    have hf2 := meets _ s k2 (by omega)
    have hfk : Ev (fun k => impl_FitsKey.f k (ks.map tx) (tx s) (n : Int)) (fits (ks.getD ((n : Int)).toNat []) s, true) := by
      unfold impl_FitsKey.f
      refine Ev.bind h2 (Ev.congr (fun k => ?_) (Ev.bind (f := fun _ t => some (t, true)) hf2 (Ev.now _)))
      rw [List.length_map, w64 (n := (ks.length : Int) - 1) (by omega) (by omega), in_eq, if_pos rfl, obind, if_pos (by rw [decide_eq_true_eq]; omega), if_pos c.2.1, if_pos c.2.2, rdKx c.2.1 c.2.2]
    refine ⟨if fits (ks.getD ((n : Int)).toNat []) s = true then (tx (flipAt s n), true) else (⟨#[]⟩, false), ?_, ?_⟩
    · unfold spec_MoveKeyed.f
      refine Ev.bind h1 (Ev.congr (fun k => by rw [List.length_map, w64 (n := (ks.length : Int) - 1) (by omega) (by omega), l1In_eq, if_pos rfl, obind, if_pos (by rw [decide_eq_true_eq]; omega), if_pos c.2.1, if_pos c.2.2, rdKx c.2.1 c.2.2]) (Ev.bind hf ?_))
      cases fits (ks.getD ((n : Int)).toNat []) s with
      | false => exact Ev.congr (fun k => if_neg Bool.false_ne_true) (Ev.now _)
      | true => exact Ev.congr (fun k => by rw [if_pos rfl, hm, obind, if_pos rfl]) (Ev.now _)
    · unfold impl_MoveKeyed.f
      refine Ev.bind hfk (Ev.congr (fun k => if_pos rfl) ?_)
      cases fits (ks.getD ((n : Int)).toNat []) s with
      | false => exact Ev.congr (fun k => if_neg Bool.false_ne_true) (Ev.now _)
      | true => exact Ev.congr (fun k => by rw [if_pos rfl, ht, obind, if_pos rfl]) (Ev.now _)
  · obtain ⟨R, e1, e2⟩ := both_fits ks s x hn
    have hR : Ev (fun k => impl_FitsKey.f k (ks.map tx) (tx s) x) (false, false) := by
      unfold impl_FitsKey.f
      refine Ev.bind (keyed_one ks s hn) ?_
      cases ha : askK ks s with
      | false => exact Ev.congr (fun k => if_neg Bool.false_ne_true) (Ev.now _)
      | true =>
        rw [List.length_map, w64 (n := (ks.length : Int) - 1) (by omega) (by omega), in_eq]
        refine Ev.congr (fun k => by rw [if_pos rfl, obind, if_neg (by rw [decide_eq_true_eq]; have : ¬ (0 ≤ x ∧ x < (ks.length : Int)) := fun h => c ⟨ha, h⟩; omega)]) (Ev.now _)
    refine ⟨(⟨#[]⟩, false), ?_, ?_⟩
    · unfold spec_MoveKeyed.f
      refine Ev.bind (keAsked ks s hn) ?_
      cases ha : askK ks s with
      | false => exact Ev.congr (fun k => if_neg Bool.false_ne_true) (Ev.now _)
      | true =>
        rw [List.length_map, w64 (n := (ks.length : Int) - 1) (by omega) (by omega), l1In_eq]
        refine Ev.congr (fun k => by rw [if_pos rfl, obind, if_neg (by rw [decide_eq_true_eq]; have : ¬ (0 ≤ x ∧ x < (ks.length : Int)) := fun h => c ⟨ha, h⟩; omega)]) (Ev.now _)
    · unfold impl_MoveKeyed.f
      exact Ev.bind hR (Ev.congr (fun k => if_neg Bool.false_ne_true) (Ev.now _))
end Go.Proofs.YtbgkcbppkhakhaaDoor.Lem
namespace Go.Proofs.YtbgkcbppkhakhaaDoor.Pure
open Go.RowKit Go.Proofs.YtbgkcbppkhakhaaDoor.Lem Go.Proofs.YtbgkcbppkhakhaaDoor.PK Go.Proofs.YtbgkcbppkhakhaaDoorW.PrintWords Go.Proofs.YtbgkcbppkhakhaaDoorW.PrintLast Go.Proofs.YtbgkcbppkhakhaaDoorW.PrintMore

theorem FnExactMoveKeyed : laws_FnExactMoveKeyed.Pure := by
  intro L s x hl hz _ _
  obtain ⟨t, ht, hc⟩ := szStringS L hl hz
  have key : Ev (fun k => laws_FnExactMoveKeyed.f k L s x) true := by
    unfold laws_FnExactMoveKeyed.f
    by_cases d0 : (s.size : Int) > 1048576
    · exact Ev.congr (fun k => if_pos d0) (Ev.now _)
    refine Ev.congr (fun k => if_neg d0) ?_
    refine Ev.bind ht ?_
    by_cases c1 : t < 0
    · exact Ev.congr (fun k => if_pos c1) (Ev.now _)
    have hh := hc.resolve_left c1
    have h1 := toStringS L hh
    have h2 := eqStringS L hh
    obtain ⟨ks, rfl⟩ := as_tx L
    obtain ⟨R, e1, e2⟩ := both_move ks s.data.toList x (by rwa [List.length_map] at hh)
    rw [tx_self] at e1 e2
    refine Ev.congr (fun k => if_neg c1) (Ev.bind h1 (Ev.bind e1 (Ev.bind h1 (Ev.bind e2 ?_))))
    refine Ev.congr (fun k => by rw [if_pos rfl, bne_self_eq_false]) ?_
    refine Ev.step (fun k => by simp only [laws_FnExactMoveKeyed.j0]; rw [if_neg Bool.false_ne_true]) (Ev.bind h1 ?_)
    exact Ev.bind h2 (Ev.congr (fun k => if_pos rfl) (Ev.now _))
  obtain ⟨K, h⟩ := key
  exact ⟨K, h K (Nat.le_refl _)⟩
end Go.Proofs.YtbgkcbppkhakhaaDoor.Pure
