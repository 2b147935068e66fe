/-
  DERIVED. GIVEN WITH THE SEED: THE CARDS: each row of YtgfjgpnaalblbaaGreatDoorRows.lean that lists a variable, with what it lists TIED to the program's text (the seventh form; the later family's looks); each row that meets fmt, with fmt's text TOLD by the authors' own Lean function (tested against real Go, not proved from fmt's source: count such statements apart). THE CARD IS WHAT COUNTS. Prove the row's statement (the work); the ties are given (YtgfjgpnaalblbaaGreatDoorTie.lean); close each card by the builder's one call (the guide's Derived/Test/ToyasCard.lean, 'card_holds'). Laid BY PROGRAM, IN A SANDBOX (cutbox-door.mjs). By AI agents, Wed Nov 11 2026. No macro, syntax, notation, axiom, sorry.
-/
import Derived.Test.YtgfjgpnaalblbaaGreatDoorRows
import GoSem.ClaimSeven
namespace Go.Proofs.YtgfjgpnaalblbaaGreatDoor
namespace Rows

/-- THE TIED CARD OF 'laws.FnPairsNear'. -/
def fnPairsNearCard : Claim7 := { stood := { row := fnPairsNearRow, standIns := [], harness := (true, "caec2f1fc5efaf290b8b9281db84cba4cc18632505984612f371f163435e9476"), looks := false }, kinds := [], alts := [], laidByText := true, laidKinds := [.data, .pinned], laidTests := true, laidLooks := .later }
def FnPairsNearCardSaid : Prop := Claim7.holds Tryz.pinned (.plain (OpenSpec.ofChange fnPairsNearSpec)) fnPairsNearCard

/-- THE SECOND FORM's CARD OF 'laws.FnPairsNear'. -/
def fnPairsNearUptoCard : Claim7 := { stood := { row := fnPairsNearUptoRow, standIns := [], harness := (true, "caec2f1fc5efaf290b8b9281db84cba4cc18632505984612f371f163435e9476"), looks := false }, kinds := [], alts := [], laidByText := true, laidKinds := [.data, .pinned], laidTests := true, laidLooks := .later }
def FnPairsNearUptoCardSaid : Prop := Claim7.holds Tryz.pinned (.plain (OpenSpec.upto fnPairsNearSpec)) fnPairsNearUptoCard
end Rows
end Go.Proofs.YtgfjgpnaalblbaaGreatDoor
