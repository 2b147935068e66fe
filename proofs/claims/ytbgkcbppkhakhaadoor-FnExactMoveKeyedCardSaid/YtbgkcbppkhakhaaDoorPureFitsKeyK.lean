/-
  Whether a ring can be moved by keys: the law holds.
-/
import Derived.Test.YtbgkcbppkhakhaaDoorLemKeyLawK
namespace Go.Proofs.YtbgkcbppkhakhaaDoor.Lem
open Go.RowKit Go.Proofs.YtbgkcbppkhakhaaDoor.PK Go.Proofs.YtbgkcbppkhakhaaDoorW.PrintWords Go.Proofs.YtbgkcbppkhakhaaDoorW.PrintLast Go.Proofs.YtbgkcbppkhakhaaDoorW.PrintMore Go.Proofs.YtbgkcbppkhakhaaDoor.Ring Go.Proofs.YtbgkcbppkhakhaaDoor.Bfs
set_option linter.unusedVariables false
set_option linter.unusedSimpArgs false

theorem rdKx {ks : List Stt} {x : Int} (h0 : 0 ≤ x) (h1 : x < (ks.length : Int)) : rdOf ByteArray.empty (ks.map tx) x = tx (ks.getD x.toNat []) := by
  obtain ⟨n, rfl⟩ := Int.eq_ofNat_of_zero_le h0
  have hn : n < ks.length := Int.ofNat_lt.1 h1
  rw [Int.toNat_natCast, getD_get hn]
  exact rdK hn
def fitsR (ks : List Stt) (s : Stt) (x : Int) : Bool × Bool := if askK ks s = true ∧ 0 ≤ x ∧ x < (ks.length : Int) then (fits (ks.getD x.toNat []) s, true) else (false, false)
theorem key_at {ks : List Stt} {s : Stt} (hk : keysOk ks = true) (hs : okN ks.length s) {x : Int} (h0 : 0 ≤ x) (h1 : x < (ks.length : Int)) : (ks.getD x.toNat []).all okk = true ∧ (ks.getD x.toNat []).length = s.length ∧ s.length ≤ 10 := by
  obtain ⟨⟨k1, k2⟩, k3⟩ := keys_parts hk
  obtain ⟨n, rfl⟩ := Int.eq_ofNat_of_zero_le h0
  have hn : n < ks.length := Int.ofNat_lt.1 h1
  rw [Int.toNat_natCast, getD_get hn]
  obtain ⟨a1, a2, a3⟩ := k3 n hn
  exact ⟨a3, by rw [a1, hs.1], by rw [hs.1]; exact k2⟩
theorem both_fits (ks : List Stt) (s : Stt) (x : Int) (hn : ks.length ≤ 1048576) : ∃ R, Ev (fun k => spec_FitsKey.f k (ks.map tx) (tx s) x) R ∧ Ev (fun k => impl_FitsKey.f k (ks.map tx) (tx s) x) R := by
  refine ⟨fitsR ks s x, ?_, ?_⟩
  · unfold spec_FitsKey.f fitsR
    refine Ev.bind (keAsked ks s hn) ?_
    cases ha : askK ks s with
    | false => exact Ev.congr (fun k => by rw [if_neg Bool.false_ne_true, if_neg (fun h => Bool.false_ne_true h.1)]) (Ev.now _)
    | true =>
      obtain ⟨hk, hs⟩ := ask_parts ha
      rw [List.length_map, w64 (n := (ks.length : Int) - 1) (by omega) (by omega), l1In_eq]
      by_cases c : 0 ≤ x ∧ x < (ks.length : Int)
      · obtain ⟨k1, k2, k3⟩ := key_at hk hs c.1 c.2
        refine Ev.congr (fun k => by rw [if_pos rfl, obind, if_pos (by rw [decide_eq_true_eq]; omega), if_pos c.1, if_pos c.2, rdKx c.1 c.2]) ?_
        rw [if_pos ⟨rfl, c⟩]
        exact Ev.bind (f := fun _ t => some (t, true)) (keFits _ s k1 k2 (by omega)) (Ev.now _)
      · refine Ev.congr (fun k => by rw [if_pos rfl, obind, if_neg (by rw [decide_eq_true_eq]; omega), if_neg (fun h => c h.2)]) (Ev.now _)
  · unfold impl_FitsKey.f fitsR
    refine Ev.bind (keyed_one ks s hn) ?_
    cases ha : askK ks s with
    | false => exact Ev.congr (fun k => by rw [if_neg Bool.false_ne_true, if_neg (fun h => Bool.false_ne_true h.1)]) (Ev.now _)
    | true =>
      obtain ⟨hk, hs⟩ := ask_parts ha
      rw [List.length_map, w64 (n := (ks.length : Int) - 1) (by omega) (by omega), in_eq]
      by_cases c : 0 ≤ x ∧ x < (ks.length : Int)
      · obtain ⟨k1, k2, k3⟩ := key_at hk hs c.1 c.2
        refine Ev.congr (fun k => by rw [if_pos rfl, obind, if_pos (by rw [decide_eq_true_eq]; omega), if_pos c.1, if_pos c.2, rdKx c.1 c.2]) ?_
        rw [if_pos ⟨rfl, c⟩]
        exact Ev.bind (f := fun _ t => some (t, true)) (meets _ s k2 (by omega)) (Ev.now _)
      · refine Ev.congr (fun k => by rw [if_pos rfl, obind, if_neg (by rw [decide_eq_true_eq]; omega), if_neg (fun h => c h.2)]) (Ev.now _)
end Go.Proofs.YtbgkcbppkhakhaaDoor.Lem
namespace Go.Proofs.YtbgkcbppkhakhaaDoor.Pure
open Go.RowKit Go.Proofs.YtbgkcbppkhakhaaDoor.Lem Go.Proofs.YtbgkcbppkhakhaaDoor.PK Go.Proofs.YtbgkcbppkhakhaaDoorW.PrintWords Go.Proofs.YtbgkcbppkhakhaaDoorW.PrintLast Go.Proofs.YtbgkcbppkhakhaaDoorW.PrintMore

theorem FnExactFitsKey : laws_FnExactFitsKey.Pure := by
  intro L s x hl hz _ _
  obtain ⟨t, ht, hc⟩ := szStringS L hl hz
  have key : Ev (fun k => laws_FnExactFitsKey.f k L s x) true := by
    unfold laws_FnExactFitsKey.f
    by_cases d0 : (s.size : Int) > 1048576
    · exact Ev.congr (fun k => if_pos d0) (Ev.now _)
    refine Ev.congr (fun k => if_neg d0) ?_
    refine Ev.bind ht ?_
    by_cases c1 : t < 0
    · exact Ev.congr (fun k => if_pos c1) (Ev.now _)
    have hh := hc.resolve_left c1
    have h1 := toStringS L hh
    have h2 := eqStringS L hh
    obtain ⟨ks, rfl⟩ := as_tx L
    obtain ⟨R, e1, e2⟩ := both_fits ks s.data.toList x (by rwa [List.length_map] at hh)
    rw [tx_self] at e1 e2
    refine Ev.congr (fun k => if_neg c1) (Ev.bind h1 (Ev.bind e1 (Ev.bind h1 (Ev.bind e2 ?_))))
    refine Ev.congr (fun k => by rw [if_neg (by rw [bne_self_eq_false]; exact Bool.false_ne_true), bne_self_eq_false]) ?_
    refine Ev.step (fun k => by simp only [laws_FnExactFitsKey.j0]; rw [if_neg Bool.false_ne_true]) (Ev.bind h1 ?_)
    exact Ev.bind h2 (Ev.congr (fun k => if_pos rfl) (Ev.now _))
  obtain ⟨K, h⟩ := key
  exact ⟨K, h K (Nat.le_refl _)⟩
end Go.Proofs.YtbgkcbppkhakhaaDoor.Pure
