/- For all arguments the program's MeanOfPairs returns what the reference's returns: outside 1..12 both fail, and the twelve numbers of rings are run one by one. -/
import Derived.Test.YtclidnndehbhjaaPFnExactMeanOfPairsx1
namespace Go.Proofs.Ytclidnndehbhjaa.Pure
open Go.RowKit Go.Proofs.Ytclidnndehbhjaa.PFnExactMeanOfPairs Go.Proofs.YtclidnndehbhjaaW.PrintWords Go.Proofs.YtclidnndehbhjaaW.PrintLast

theorem FnExactMeanOfPairs : laws_FnExactMeanOfPairs.Pure := by
  intro a0 _
  by_cases h1 : 1 ≤ a0
  · by_cases h2 : a0 ≤ 12
    · refine ⟨60, ?_⟩
      have h : a0 = 1 ∨ a0 = 2 ∨ a0 = 3 ∨ a0 = 4 ∨ a0 = 5 ∨ a0 = 6 ∨ a0 = 7 ∨ a0 = 8 ∨ a0 = 9 ∨ a0 = 10 ∨ a0 = 11 ∨ a0 = 12 := by omega
      rcases h with rfl | rfl | rfl | rfl | rfl | rfl | rfl | rfl | rfl | rfl | rfl | rfl <;> decide +kernel
    · refine ⟨0, ?_⟩
      simp [laws_FnExactMeanOfPairs.f, spec_MeanOfPairs.f, impl_MeanOfPairs.f, spec_waRings.f, impl_areWalks.f, spec_l1In.f, impl_in.f, h1, h2]
  · refine ⟨0, ?_⟩
    simp [laws_FnExactMeanOfPairs.f, spec_MeanOfPairs.f, impl_MeanOfPairs.f, spec_waRings.f, impl_areWalks.f, spec_l1In.f, impl_in.f, h1]

end Go.Proofs.Ytclidnndehbhjaa.Pure
