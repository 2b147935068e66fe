/-
  How many states slides lead to: the law holds.
-/
import Derived.Test.YtejkogiiocbmfaaLemBoFarC
import Derived.Test.YtejkogiiocbmfaaLemCopyC
import Derived.Test.YtejkogiiocbmfaaPCx21
namespace Go.Proofs.Ytejkogiiocbmfaa.Lem
open Go.RowKit Go.Proofs.Ytejkogiiocbmfaa.PC Go.Proofs.YtejkogiiocbmfaaW.PrintWords Go.Proofs.YtejkogiiocbmfaaW.PrintLast Go.Proofs.YtejkogiiocbmfaaW.PrintMore Go.Proofs.Ytejkogiiocbmfaa.Bfs
set_option linter.unusedVariables false
set_option linter.unusedSimpArgs false

def countR (pl : List Int) (bl : List Blk) (s : Stt) : Int × Bool := if askedB pl bl s = true then (((foundB pl bl s).q.length : Int), true) else (0, false)
theorem spec_count (pl : List Int) (bl : List Blk) (s : Stt) (hl : pl.length ≤ 1048576) (hb : bl.length ≤ 1048576) : Ev (fun k => spec_CountSlid.f k pl bl (tx s)) (countR pl bl s) := by
  unfold spec_CountSlid.f countR
  refine Ev.bind (boAsked pl bl s hl hb) ?_
  cases ha : askedB pl bl s with
  | false => exact Ev.congr (fun k => if_neg (by simp)) (Ev.now _)
  | true =>
    rw [if_pos rfl]
    obtain ⟨hg, hs⟩ := asked_parts ha
    obtain ⟨F, hF, h⟩ := boFar hg hs
    refine Ev.congr (fun k => if_pos rfl) (Ev.bind (f := fun _ (t : List Int × List ByteArray) => some ((t.2.length : Int), true)) h (Ev.congr (fun k => ?_) (Ev.now _)))
    rw [List.length_map]
theorem impl_count (pl : List Int) (bl : List Blk) (s : Stt) (hl : pl.length ≤ 1048576) (hb : bl.length ≤ 1048576) : Ev (fun k => impl_CountSlid.f k pl bl (tx s)) (countR pl bl s) := by
  unfold impl_CountSlid.f countR
  refine Ev.bind (good_one pl bl s hl hb) ?_
  cases ha : askedB pl bl s with
  | false => exact Ev.congr (fun k => if_neg (by simp)) (Ev.now _)
  | true =>
    rw [if_pos rfl]
    obtain ⟨hg, hs⟩ := asked_parts ha
    refine Ev.congr (fun k => by rw [if_pos rfl, if_pos (ok_small hg hs)]) (Ev.bind (f := fun _ (q : List ByteArray × (ByteArray → Option Int) × (ByteArray → Option Int)) => some ((q.1.length : Int), true)) (search_run hg s hs) (Ev.congr (fun k => ?_) (Ev.now _)))
    rw [List.length_map]
end Go.Proofs.Ytejkogiiocbmfaa.Lem
namespace Go.Proofs.Ytejkogiiocbmfaa.Pure
open Go.RowKit Go.Proofs.Ytejkogiiocbmfaa.Lem Go.Proofs.Ytejkogiiocbmfaa.PC Go.Proofs.YtejkogiiocbmfaaW.PrintWords Go.Proofs.YtejkogiiocbmfaaW.PrintLast Go.Proofs.YtejkogiiocbmfaaW.PrintMore

theorem FnExactCountSlid : laws_FnExactCountSlid.Pure := by
  intro pl bl s hl _ hb _
  obtain ⟨t, ht, hc⟩ := szBolts pl bl hl hb
  have key : Ev (fun k => laws_FnExactCountSlid.f k pl bl s) true := by
    unfold laws_FnExactCountSlid.f
    by_cases c0 : (s.size : Int) > 1048576
    · exact Ev.congr (fun k => if_pos c0) (Ev.now _)
    refine Ev.congr (fun k => if_neg c0) ?_
    refine Ev.congr (fun k => by rw [ht, obind]) ?_
    by_cases c1 : t < 0
    · exact Ev.congr (fun k => if_pos c1) (Ev.now _)
    have hh := hc.resolve_left c1
    have hb2 : (bl.map cp).length ≤ 1048576 := by rw [List.length_map]; exact hh.2
    have e1 := spec_count pl (bl.map cp) s.data.toList hh.1 hb2
    have e2 := impl_count pl (bl.map cp) s.data.toList hh.1 hb2
    rw [tx_self] at e1 e2
    refine Ev.congr (fun k => if_neg c1) (Ev.bind (toBolts pl bl hh.1 hh.2) (Ev.bind e1 (Ev.bind (toBolts pl bl hh.1 hh.2) (Ev.bind e2 ?_))))
    refine Ev.congr (fun k => by rw [if_pos rfl, bne_self_eq_false]) ?_
    refine Ev.step (fun k => by simp only [laws_FnExactCountSlid.j0]; rw [if_neg Bool.false_ne_true]) (Ev.bind (toBolts pl bl hh.1 hh.2) ?_)
    exact Ev.bind (eqBolts pl (bl.map cp) hh.1 hb2) (Ev.congr (fun k => if_pos rfl) (Ev.now _))
  obtain ⟨K, h⟩ := key
  exact ⟨K, h K (Nat.le_refl _)⟩
end Go.Proofs.Ytejkogiiocbmfaa.Pure
