/-
  The fewest slides from one state to another: the law holds.
-/
import Derived.Test.YtejkogiiocbmfaaLemTwoC
import Derived.Test.YtejkogiiocbmfaaLemCopyC
import Derived.Test.YtejkogiiocbmfaaPCx22
namespace Go.Proofs.Ytejkogiiocbmfaa.Lem
open Go.RowKit Go.Proofs.Ytejkogiiocbmfaa.PC Go.Proofs.YtejkogiiocbmfaaW.PrintWords Go.Proofs.YtejkogiiocbmfaaW.PrintLast Go.Proofs.YtejkogiiocbmfaaW.PrintMore Go.Proofs.Ytejkogiiocbmfaa.Bfs
set_option linter.unusedVariables false
set_option linter.unusedSimpArgs false

def ansO : Option Nat → Int × Bool
  | none => (0, false)
  | some n => ((n : Int), true)
def fewR (pl : List Int) (bl : List Blk) (s t : Stt) : Int × Bool := if (askedB pl bl s && askedB pl bl t) = true then ansO ((foundB pl bl s).far t) else (0, false)
theorem spec_few (pl : List Int) (bl : List Blk) (s t : Stt) (hl : pl.length ≤ 1048576) (hb : bl.length ≤ 1048576) : Ev (fun k => spec_FewestSlides.f k pl bl (tx s) (tx t)) (fewR pl bl s t) := by
  unfold spec_FewestSlides.f fewR
  refine Ev.bind (boTwo pl bl s t hl hb) ?_
  cases ha : (askedB pl bl s && askedB pl bl t) with
  | false => exact Ev.congr (fun k => if_neg (by simp)) (Ev.now _)
  | true =>
    rw [if_pos rfl]
    rw [Bool.and_eq_true] at ha
    obtain ⟨hg, hs⟩ := asked_parts ha.1
    obtain ⟨_, ht⟩ := asked_parts ha.2
    obtain ⟨F, hF, h⟩ := boFar hg hs
    have hnt : ((numB pl t : Nat) : Int) < (F.length : Int) := by rw [hF.1]; exact Int.ofNat_lt.2 (numB_lt hg ht.1)
    have hrF : rd F ((numB pl t : Nat) : Int) = fz ((foundB pl bl s).far t) := hF.2 t ht.1
    refine Ev.congr (fun k => if_pos rfl) (Ev.bind h (Ev.bind (boNumber pl bl t hg ht.1) ?_))
    refine Ev.congr (fun k => by rw [if_pos (Int.natCast_nonneg _), if_pos hnt, hrF]) ?_
    cases (foundB pl bl s).far t with
    | none => exact Ev.congr (fun k => if_pos (by decide)) (Ev.now _)
    | some v => exact Ev.congr (fun k => if_neg (by rw [fz_neg]; simp)) (Ev.now _)
theorem impl_few (pl : List Int) (bl : List Blk) (s t : Stt) (hl : pl.length ≤ 1048576) (hb : bl.length ≤ 1048576) : Ev (fun k => impl_FewestSlides.f k pl bl (tx s) (tx t)) (fewR pl bl s t) := by
  unfold impl_FewestSlides.f fewR
  refine Ev.bind (good_two pl bl s t hl hb) ?_
  cases ha : (askedB pl bl s && askedB pl bl t) with
  | false => exact Ev.congr (fun k => if_neg (by simp)) (Ev.now _)
  | true =>
    rw [if_pos rfl]
    rw [Bool.and_eq_true] at ha
    obtain ⟨hg, hs⟩ := asked_parts ha.1
    obtain ⟨_, ht⟩ := asked_parts ha.2
    refine Ev.congr (fun k => by rw [if_pos rfl, if_pos ⟨ok_small hg hs, ok_small hg ht⟩]) (Ev.bind (f := fun _ (q : List ByteArray × (ByteArray → Option Int) × (ByteArray → Option Int)) => some ((q.2.1 (tx t)).getD 0, (q.2.1 (tx t)).isSome)) (search_run hg s hs) (Ev.congr (fun k => ?_) (Ev.now _)))
    show some ((fB (foundB pl bl s) (tx t)).getD 0, (fB (foundB pl bl s) (tx t)).isSome) = _
    rw [fB_tx]
    cases (foundB pl bl s).far t <;> rfl
end Go.Proofs.Ytejkogiiocbmfaa.Lem
namespace Go.Proofs.Ytejkogiiocbmfaa.Pure
open Go.RowKit Go.Proofs.Ytejkogiiocbmfaa.Lem Go.Proofs.Ytejkogiiocbmfaa.PC Go.Proofs.YtejkogiiocbmfaaW.PrintWords Go.Proofs.YtejkogiiocbmfaaW.PrintLast Go.Proofs.YtejkogiiocbmfaaW.PrintMore

theorem FnExactFewestSlides : laws_FnExactFewestSlides.Pure := by
  intro pl bl s u hl _ hb _ _
  obtain ⟨t, ht, hc⟩ := szBolts pl bl hl hb
  have key : Ev (fun k => laws_FnExactFewestSlides.f k pl bl s u) true := by
    unfold laws_FnExactFewestSlides.f
    by_cases d0 : (s.size : Int) > 1048576
    · exact Ev.congr (fun k => if_pos d0) (Ev.now _)
    refine Ev.congr (fun k => if_neg d0) ?_
    by_cases d1 : (u.size : Int) > 1048576
    · exact Ev.congr (fun k => if_pos d1) (Ev.now _)
    refine Ev.congr (fun k => if_neg d1) ?_
    refine Ev.congr (fun k => by rw [ht, obind]) ?_
    by_cases c1 : t < 0
    · exact Ev.congr (fun k => if_pos c1) (Ev.now _)
    have hh := hc.resolve_left c1
    have hb2 : (bl.map cp).length ≤ 1048576 := by rw [List.length_map]; exact hh.2
    have e1 := spec_few pl (bl.map cp) s.data.toList u.data.toList hh.1 hb2
    have e2 := impl_few pl (bl.map cp) s.data.toList u.data.toList hh.1 hb2
    rw [tx_self, tx_self] at e1 e2
    refine Ev.congr (fun k => if_neg c1) (Ev.bind (toBolts pl bl hh.1 hh.2) (Ev.bind e1 (Ev.bind (toBolts pl bl hh.1 hh.2) (Ev.bind e2 ?_))))
    refine Ev.congr (fun k => by rw [if_pos rfl, bne_self_eq_false]) ?_
    refine Ev.step (fun k => by simp only [laws_FnExactFewestSlides.j0]; rw [if_neg Bool.false_ne_true]) (Ev.bind (toBolts pl bl hh.1 hh.2) ?_)
    exact Ev.bind (eqBolts pl (bl.map cp) hh.1 hb2) (Ev.congr (fun k => if_pos rfl) (Ev.now _))
  obtain ⟨K, h⟩ := key
  exact ⟨K, h K (Nat.le_refl _)⟩
end Go.Proofs.Ytejkogiiocbmfaa.Pure
