/-
  DERIVED. GIVEN WITH THE SEED: THE CARDS: each row of YtppbohghongfmaaDoorRows.lean that lists a variable, with what it lists TIED to the program's text (the seventh form; the later family's looks); each row that meets fmt, with fmt's text TOLD by the authors' own Lean function (tested against real Go, not proved from fmt's source: count such statements apart). THE CARD IS WHAT COUNTS. Prove the row's statement (the work); the ties are given (YtppbohghongfmaaDoorTie.lean); close each card by the builder's one call (the guide's Derived/Test/ToyasCard.lean, 'card_holds'). Laid BY PROGRAM, IN A SANDBOX (cutbox-door.mjs). By AI agents, Wed Nov 11 2026. No macro, syntax, notation, axiom, sorry.
-/
import Derived.Test.YtppbohghongfmaaDoorRows
import GoSem.ClaimSeven
namespace Go.Proofs.YtppbohghongfmaaDoor
namespace Rows

/-- THE TIED CARD OF 'laws.FnPairsMove'. -/
def fnPairsMoveCard : Claim7 := { stood := { row := fnPairsMoveRow, standIns := [], harness := (true, "574c9a2819d30a3adaab8e23512375de1cb12aa256325c97f631addd680deb09"), looks := false }, kinds := [], alts := [], laidByText := true, laidKinds := [.data, .pinned], laidTests := true, laidLooks := .later }
def FnPairsMoveCardSaid : Prop := Claim7.holds Tryd.pinned (.plain (OpenSpec.ofChange fnPairsMoveSpec)) fnPairsMoveCard

/-- THE SECOND FORM's CARD OF 'laws.FnPairsMove'. -/
def fnPairsMoveUptoCard : Claim7 := { stood := { row := fnPairsMoveUptoRow, standIns := [], harness := (true, "574c9a2819d30a3adaab8e23512375de1cb12aa256325c97f631addd680deb09"), looks := false }, kinds := [], alts := [], laidByText := true, laidKinds := [.data, .pinned], laidTests := true, laidLooks := .later }
def FnPairsMoveUptoCardSaid : Prop := Claim7.holds Tryd.pinned (.plain (OpenSpec.upto fnPairsMoveSpec)) fnPairsMoveUptoCard
end Rows
end Go.Proofs.YtppbohghongfmaaDoor
