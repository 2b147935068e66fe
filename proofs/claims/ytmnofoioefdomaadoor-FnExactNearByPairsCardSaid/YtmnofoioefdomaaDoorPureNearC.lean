/-
  The pure statement of the law on NearByPairs.
-/
import Derived.Test.YtmnofoioefdomaaDoorLemPickC
import Derived.Test.YtmnofoioefdomaaDoorLemStrSC
import Derived.Test.YtmnofoioefdomaaDoorPCx7
namespace Go.Proofs.YtmnofoioefdomaaDoor.Pure
open Go.RowKit Go.Proofs.YtmnofoioefdomaaDoor.PC Go.Proofs.YtmnofoioefdomaaDoorW.PrintWords Go.Proofs.YtmnofoioefdomaaDoorW.PrintLast Go.Proofs.YtmnofoioefdomaaDoorW.PrintMore Go.Proofs.YtmnofoioefdomaaDoor.Ring Go.Proofs.YtmnofoioefdomaaDoor.Lem Go.Proofs.YtmnofoioefdomaaDoor.Bfs
set_option linter.unusedVariables false
def nearP (s : St Nat) (x : Int) (n : Nat) : Bool := decide (fz (s.far n) ≤ x)
theorem near_l0 (x0 : ByteArray) (r : Nat) (hr : r ≤ 12) (hx : x0.data.toList.length = r) (s : St Nat) (x : Int) : ∀ (d n : Nat), n + d = 2 ^ r →
    Ev (fun k => spec_NearByPairs.l0 k x0 x (pickT r (nearP s x) n) (farL (2 ^ r) s) ((2 ^ r : Nat) : Int) (n : Int)) (pickT r (nearP s x) (2 ^ r), true) := by
  intro d
  have h4096 := pow_le12 hr
  induction d with
  | zero =>
    intro n hd
    have hn : n = 2 ^ r := by omega
    refine Ev.step (f := fun _ => some (pickT r (nearP s x) (2 ^ r), true)) (fun k => ?_) (Ev.now _)
    simp only [spec_NearByPairs.l0]
    rw [hn, if_neg (Int.lt_irrefl _)]
  | succ d ih =>
    intro n hd
    have hlt : n < 2 ^ r := by omega
    have h2 := ih (n + 1) (by omega)
    have hl := pickT_len r (nearP s x) n
    have hlt' : (n : Int) < ((2 ^ r : Nat) : Int) := Int.ofNat_lt.2 hlt
    have hs1 : wrap64 ((n : Int) + 1) = ((n + 1 : Nat) : Int) := succ64 (by omega)
    have hf := farL_rd s hlt
    rw [pickT_succ] at h2
    by_cases h : fz (s.far n) ≤ x
    · rw [if_pos (by simpa [nearP] using h)] at h2
      have hst := riState r n (by omega) (by omega)
      refine ev_num hst h2 (fun k hk => ?_)
      simp only [spec_NearByPairs.l0]
      rw [if_pos hlt', if_pos (Int.natCast_nonneg _), farL_length, if_pos hlt', hf, if_pos h, size_eq, hx, hk, obind, if_pos (by omega), hs1]
      rfl
    · rw [if_neg (by simpa [nearP] using h)] at h2
      refine Ev.step (fun k => ?_) h2
      simp only [spec_NearByPairs.l0]
      rw [if_pos hlt', if_pos (Int.natCast_nonneg _), farL_length, if_pos hlt', hf, if_neg h, hs1]
theorem near_spec (a0 : ByteArray) (a1 : Int) : ∃ v : List ByteArray × Bool, v.1.length ≤ 4096 ∧ Ev (fun k => spec_NearByPairs.f k a0 a1) v ∧ Ev (fun k => impl_NearByPairs.f k a0 a1) v := by
  have hg := twGood a0
  have stop : Ev (fun k => spec_NearByPairs.j0 k a0 a1 true) (([] : List ByteArray), false) := Ev.step (fun k => by simp only [spec_NearByPairs.j0]; rw [if_pos trivial]) (Ev.now _)
  cases h : goodP a0.data.toList with
  | false =>
    rw [h] at hg
    refine ⟨([], false), by simp, ?_, ?_⟩
    · unfold spec_NearByPairs.f
      exact Ev.bind hg (Ev.congr (fun k => if_neg (by simp)) stop)
    · unfold impl_NearByPairs.f
      rw [isPaired, h]
      exact Ev.congr (fun k => by rw [obind, if_neg (by simp)]) (Ev.now _)
  | true =>
    rw [h] at hg
    cases h1 : decide ((0 : Int) ≤ a1 ∧ a1 ≤ 6) with
    | false =>
      refine ⟨([], false), by simp, ?_, ?_⟩
      · unfold spec_NearByPairs.f
        rw [l1In_eq, h1]
        exact Ev.bind hg (Ev.congr (fun k => by rw [if_pos rfl, obind]; rfl) stop)
      · unfold impl_NearByPairs.f
        rw [isPaired, h, in_eq, h1]
        exact Ev.congr (fun k => by rw [obind, if_pos rfl, obind, if_neg (by simp)]) (Ev.now _)
    | true =>
      obtain ⟨r, s, h2, h12, hl, _, _, e1, e2⟩ := one_run h
      have h4096 := pow_le12 h12
      refine ⟨(pickT r (nearP s a1) (2 ^ r), true), Nat.le_trans (pickT_len r (nearP s a1) (2 ^ r)) h4096, ?_, ?_⟩
      · unfold spec_NearByPairs.f
        rw [l1In_eq, h1]
        refine Ev.bind hg (Ev.congr (fun k => by rw [if_pos rfl, obind]) ?_)
        refine Ev.step (fun k => by simp only [spec_NearByPairs.j0]; rw [if_neg (by simp)]) (Ev.bind e1 ?_)
        rw [farL_length]
        exact near_l0 a0 r h12 hl s a1 (2 ^ r) 0 (Nat.zero_add _)
      · unfold impl_NearByPairs.f
        rw [isPaired, h, in_eq, h1]
        refine Ev.congr (fun k => by rw [obind, if_pos rfl, obind, if_pos rfl]) (Ev.bind e2 ?_)
        rw [size_eq, hl]
        refine Ev.bind (withNums (impl_NearByPairs.take (farL (2 ^ r) s) a1) (nearP s a1) r h12 (fun n hn => ?_)) (Ev.now _)
        refine Ev.congr (fun k => ?_) (Ev.now _)
        unfold impl_NearByPairs.take
        rw [if_pos (Int.natCast_nonneg _), farL_length, if_pos (Int.ofNat_lt.2 hn), farL_rd s hn]
        rfl
theorem FnExactNearByPairs : laws_FnExactNearByPairs.Pure := by
  intro a0 a1 _ _
  obtain ⟨v, hl, h1, h2⟩ := near_spec a0 a1
  obtain ⟨m, hm1, hm2⟩ := marks v.1 (by omega)
  have he := eqSS v.1 (by omega)
  refine Ev.rounds ?_
  unfold laws_FnExactNearByPairs.f
  by_cases c1 : (a0.size : Int) > 1048576
  · exact Ev.congr (fun k => if_pos c1) (Ev.now _)
  · refine Ev.congr (fun k => if_neg c1) (Ev.bind h1 (Ev.bind h2 (Ev.bind he ?_)))
    refine Ev.congr (fun k => if_pos rfl) ?_
    have hne : (v.2 != v.2) = false := by simp
    rw [hne]
    refine Ev.step (fun k => by simp only [laws_FnExactNearByPairs.j0]; rw [if_neg (by simp)]) (Ev.bind hm1 (Ev.bind hm2 ?_))
    refine Ev.congr (fun k => by rw [if_neg (by omega), if_pos rfl]) (Ev.bind h2 (Ev.bind he ?_))
    refine Ev.congr (fun k => if_pos rfl) ?_
    simp only [hne]
    refine Ev.step (fun k => by simp only [laws_FnExactNearByPairs.j1]; rw [if_neg (by simp)]) (Ev.bind hm2 ?_)
    exact Ev.congr (fun k => by rw [if_neg (by omega), if_pos rfl]) (Ev.now _)
end Go.Proofs.YtmnofoioefdomaaDoor.Pure
