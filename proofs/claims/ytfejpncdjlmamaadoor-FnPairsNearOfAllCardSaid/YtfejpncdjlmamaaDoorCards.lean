/-
  DERIVED. GIVEN WITH THE SEED: THE CARDS: each row of YtfejpncdjlmamaaDoorRows.lean that lists a variable, with what it lists TIED to the program's text (the seventh form; the later family's looks); each row that meets fmt, with fmt's text TOLD by the authors' own Lean function (tested against real Go, not proved from fmt's source: count such statements apart). THE CARD IS WHAT COUNTS. Prove the row's statement (the work); the ties are given (YtfejpncdjlmamaaDoorTie.lean); close each card by the builder's one call (the guide's Derived/Test/ToyasCard.lean, 'card_holds'). Laid BY PROGRAM, IN A SANDBOX (cutbox-door.mjs). By AI agents, Wed Nov 11 2026. No macro, syntax, notation, axiom, sorry.
-/
import Derived.Test.YtfejpncdjlmamaaDoorRows
import GoSem.ClaimSeven
namespace Go.Proofs.YtfejpncdjlmamaaDoor
namespace Rows

/-- THE TIED CARD OF 'laws.FnPairsNearOfAll'. -/
def fnPairsNearOfAllCard : Claim7 := { stood := { row := fnPairsNearOfAllRow, standIns := [], harness := (true, "65fea7386509a8041b3e929beea65b799c18efab437f8838f692cc2cea8e5c83"), looks := false }, kinds := [], alts := [], laidByText := true, laidKinds := [.data, .pinned], laidTests := true, laidLooks := .later }
def FnPairsNearOfAllCardSaid : Prop := Claim7.holds Tryd.pinned (.plain (OpenSpec.ofChange fnPairsNearOfAllSpec)) fnPairsNearOfAllCard

/-- THE SECOND FORM's CARD OF 'laws.FnPairsNearOfAll'. -/
def fnPairsNearOfAllUptoCard : Claim7 := { stood := { row := fnPairsNearOfAllUptoRow, standIns := [], harness := (true, "65fea7386509a8041b3e929beea65b799c18efab437f8838f692cc2cea8e5c83"), looks := false }, kinds := [], alts := [], laidByText := true, laidKinds := [.data, .pinned], laidTests := true, laidLooks := .later }
def FnPairsNearOfAllUptoCardSaid : Prop := Claim7.holds Tryd.pinned (.plain (OpenSpec.upto fnPairsNearOfAllSpec)) fnPairsNearOfAllUptoCard
end Rows
end Go.Proofs.YtfejpncdjlmamaaDoor
