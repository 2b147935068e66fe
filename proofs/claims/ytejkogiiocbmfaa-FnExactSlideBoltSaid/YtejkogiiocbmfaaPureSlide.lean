/-
  One slide: the law holds.
-/
import Derived.Test.YtejkogiiocbmfaaLemCopy
import Derived.Test.YtejkogiiocbmfaaPAx11
namespace Go.Proofs.Ytejkogiiocbmfaa.Lem
open Go.RowKit Go.Proofs.Ytejkogiiocbmfaa.PA Go.Proofs.YtejkogiiocbmfaaW.PrintWords Go.Proofs.YtejkogiiocbmfaaW.PrintLast Go.Proofs.YtejkogiiocbmfaaW.PrintMore
set_option linter.unusedVariables false
set_option linter.unusedSimpArgs false

/-- What both slides answer. -/
def endO (o : Option (List UInt8)) : ByteArray × Bool := o.elim (⟨#[]⟩, false) (fun o => (tx o, true))
def slideR (pl : List Int) (bl : List Blk) (s : List UInt8) (x b : Int) : ByteArray × Bool :=
  if askedB pl bl s = true then endO (nextB pl bl s x b) else (⟨#[]⟩, false)
theorem tail_ev {f : Nat → Option (ByteArray × Bool)} {r : ByteArray × Bool} {o : Option (List UInt8)} (h : Ev f r) (h2 : r.2 = o.isSome) (h1 : ∀ x, o = some x → r.1 = tx x) :
    Ev (fun k => (f k).bind fun t => if t.2 = true then some (t.1, true) else some ((⟨#[]⟩ : ByteArray), false)) (endO o) := by
  refine Ev.bind (f := fun _ t => if t.2 = true then some (t.1, true) else some ((⟨#[]⟩ : ByteArray), false)) h ?_
  cases ho : o with
  | none => rw [ho] at h2; exact Ev.congr (fun k => by rw [h2]; rfl) (Ev.now _)
  | some x => rw [ho] at h2; exact Ev.congr (fun k => by rw [h2, h1 x ho]; rfl) (Ev.now _)
theorem spec_slide (pl : List Int) (bl : List Blk) (s : List UInt8) (x b : Int) (hl : pl.length ≤ 1048576) (hb : bl.length ≤ 1048576) : Ev (fun k => spec_SlideBolt.f k pl bl (tx s) x b) (slideR pl bl s x b) := by
  unfold spec_SlideBolt.f slideR
  refine Ev.bind (boAsked pl bl s hl hb) ?_
  cases ha : askedB pl bl s with
  | false => exact Ev.congr (fun k => if_neg (by simp)) (Ev.now _)
  | true =>
    rw [if_pos rfl]
    unfold askedB at ha
    simp only [Bool.and_eq_true] at ha
    obtain ⟨r, h, h2, h1⟩ := boPut pl bl s x b ha.1 ha.2.1
    exact Ev.congr (fun k => if_pos rfl) (tail_ev h h2 h1)
theorem impl_slide (pl : List Int) (bl : List Blk) (s : List UInt8) (x b : Int) (hl : pl.length ≤ 1048576) (hb : bl.length ≤ 1048576) : Ev (fun k => impl_SlideBolt.f k pl bl (tx s) x b) (slideR pl bl s x b) := by
  unfold impl_SlideBolt.f slideR
  refine Ev.bind (good_one pl bl s hl hb) ?_
  cases ha : askedB pl bl s with
  | false => exact Ev.congr (fun k => if_neg (by simp)) (Ev.now _)
  | true =>
    rw [if_pos rfl]
    unfold askedB at ha
    simp only [Bool.and_eq_true] at ha
    obtain ⟨r, h, h2, h1⟩ := slid pl bl s x b ha.1 ha.2.1
    exact Ev.congr (fun k => if_pos rfl) (tail_ev h h2 h1)
end Go.Proofs.Ytejkogiiocbmfaa.Lem
namespace Go.Proofs.Ytejkogiiocbmfaa.Pure
open Go.RowKit Go.Proofs.Ytejkogiiocbmfaa.Lem Go.Proofs.Ytejkogiiocbmfaa.PA Go.Proofs.YtejkogiiocbmfaaW.PrintWords Go.Proofs.YtejkogiiocbmfaaW.PrintLast Go.Proofs.YtejkogiiocbmfaaW.PrintMore

theorem FnExactSlideBolt : laws_FnExactSlideBolt.Pure := by
  intro pl bl s x b hl _ hb _ _ _
  obtain ⟨t, ht, hc⟩ := szBolts pl bl hl hb
  have key : Ev (fun k => laws_FnExactSlideBolt.f k pl bl s x b) true := by
    unfold laws_FnExactSlideBolt.f
    by_cases c0 : (s.size : Int) > 1048576
    · exact Ev.congr (fun k => if_pos c0) (Ev.now _)
    refine Ev.congr (fun k => if_neg c0) ?_
    refine Ev.congr (fun k => by rw [ht, obind]) ?_
    by_cases c1 : t < 0
    · exact Ev.congr (fun k => if_pos c1) (Ev.now _)
    have hh := hc.resolve_left c1
    have hb2 : (bl.map cp).length ≤ 1048576 := by rw [List.length_map]; exact hh.2
    have e1 := spec_slide pl (bl.map cp) s.data.toList x b hh.1 hb2
    have e2 := impl_slide pl (bl.map cp) s.data.toList x b hh.1 hb2
    rw [tx_self] at e1 e2
    refine Ev.congr (fun k => if_neg c1) (Ev.bind (toBolts pl bl hh.1 hh.2) (Ev.congr (fun k => obind _ _) (Ev.bind e1 (Ev.bind (toBolts pl bl hh.1 hh.2) (Ev.congr (fun k => obind _ _) (Ev.bind e2 ?_))))))
    refine Ev.congr (fun k => by rw [if_pos rfl, bne_self_eq_false]) ?_
    refine Ev.step (fun k => by simp only [laws_FnExactSlideBolt.j0]; rw [if_neg Bool.false_ne_true]) (Ev.bind (toBolts pl bl hh.1 hh.2) ?_)
    exact Ev.bind (eqBolts pl (bl.map cp) hh.1 hb2) (Ev.congr (fun k => if_pos rfl) (Ev.now _))
  obtain ⟨K, h⟩ := key
  exact ⟨K, h K (Nat.le_refl _)⟩
end Go.Proofs.Ytejkogiiocbmfaa.Pure
