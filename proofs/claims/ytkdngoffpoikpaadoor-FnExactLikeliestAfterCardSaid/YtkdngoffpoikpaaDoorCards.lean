/-
  DERIVED. GIVEN WITH THE SEED: THE CARDS: each row of YtkdngoffpoikpaaDoorRows.lean that lists a variable, with what it lists TIED to the program's text (the seventh form; the later family's looks); each row that meets fmt, with fmt's text TOLD by the authors' own Lean function (tested against real Go, not proved from fmt's source: count such statements apart). THE CARD IS WHAT COUNTS. Prove the row's statement (the work); the ties are given (YtkdngoffpoikpaaDoorTie.lean); close each card by the builder's one call (the guide's Derived/Test/ToyasCard.lean, 'card_holds'). Laid BY PROGRAM, IN A SANDBOX (cutbox-door.mjs). By AI agents, Wed Nov 11 2026. No macro, syntax, notation, axiom, sorry.
-/
import Derived.Test.YtkdngoffpoikpaaDoorRows
import GoSem.ClaimSeven
namespace Go.Proofs.YtkdngoffpoikpaaDoor
namespace Rows

/-- THE TIED CARD OF 'laws.FnExactLikeliestAfter'. -/
def fnExactLikeliestAfterCard : Claim7 := { stood := { row := fnExactLikeliestAfterRow, standIns := [], harness := (true, "423a4d72ff8cb05c0985642728cc96e2681a933188be290754d9d7d80ac3a77b"), looks := false }, kinds := [], alts := [], laidByText := true, laidKinds := [.data, .pinned], laidTests := true, laidLooks := .later }
def FnExactLikeliestAfterCardSaid : Prop := Claim7.holds Tryd.pinned (.plain (OpenSpec.ofChange fnExactLikeliestAfterSpec)) fnExactLikeliestAfterCard

/-- THE SECOND FORM's CARD OF 'laws.FnExactLikeliestAfter'. -/
def fnExactLikeliestAfterUptoCard : Claim7 := { stood := { row := fnExactLikeliestAfterUptoRow, standIns := [], harness := (true, "423a4d72ff8cb05c0985642728cc96e2681a933188be290754d9d7d80ac3a77b"), looks := false }, kinds := [], alts := [], laidByText := true, laidKinds := [.data, .pinned], laidTests := true, laidLooks := .later }
def FnExactLikeliestAfterUptoCardSaid : Prop := Claim7.holds Tryd.pinned (.plain (OpenSpec.upto fnExactLikeliestAfterSpec)) fnExactLikeliestAfterUptoCard
end Rows
end Go.Proofs.YtkdngoffpoikpaaDoor
