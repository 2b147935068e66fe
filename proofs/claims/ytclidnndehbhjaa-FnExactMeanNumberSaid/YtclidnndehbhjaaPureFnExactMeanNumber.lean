/- For all arguments the program's MeanNumber returns what the reference's returns: outside 1..12 both fail, and the twelve numbers of rings are run one by one. -/
import Derived.Test.YtclidnndehbhjaaPFnExactMeanNumberx1
namespace Go.Proofs.Ytclidnndehbhjaa.Pure
open Go.RowKit Go.Proofs.Ytclidnndehbhjaa.PFnExactMeanNumber Go.Proofs.YtclidnndehbhjaaW.PrintWords Go.Proofs.YtclidnndehbhjaaW.PrintLast

theorem FnExactMeanNumber : laws_FnExactMeanNumber.Pure := by
  intro a0 _
  by_cases h1 : 1 ≤ a0
  · by_cases h2 : a0 ≤ 12
    · refine ⟨40, ?_⟩
      have h : a0 = 1 ∨ a0 = 2 ∨ a0 = 3 ∨ a0 = 4 ∨ a0 = 5 ∨ a0 = 6 ∨ a0 = 7 ∨ a0 = 8 ∨ a0 = 9 ∨ a0 = 10 ∨ a0 = 11 ∨ a0 = 12 := by omega
      rcases h with rfl | rfl | rfl | rfl | rfl | rfl | rfl | rfl | rfl | rfl | rfl | rfl <;> decide +kernel
    · refine ⟨0, ?_⟩
      simp [laws_FnExactMeanNumber.f, spec_MeanNumber.f, impl_MeanNumber.f, spec_waRings.f, impl_areWalks.f, spec_l1In.f, impl_in.f, h1, h2]
  · refine ⟨0, ?_⟩
    simp [laws_FnExactMeanNumber.f, spec_MeanNumber.f, impl_MeanNumber.f, spec_waRings.f, impl_areWalks.f, spec_l1In.f, impl_in.f, h1]

end Go.Proofs.Ytclidnndehbhjaa.Pure
