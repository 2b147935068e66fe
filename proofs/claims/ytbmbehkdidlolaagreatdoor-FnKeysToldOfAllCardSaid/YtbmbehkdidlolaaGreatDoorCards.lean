/-
  DERIVED. GIVEN WITH THE SEED: THE CARDS: each row of YtbmbehkdidlolaaGreatDoorRows.lean that lists a variable, with what it lists TIED to the program's text (the seventh form; the later family's looks); each row that meets fmt, with fmt's text TOLD by the authors' own Lean function (tested against real Go, not proved from fmt's source: count such statements apart). THE CARD IS WHAT COUNTS. Prove the row's statement (the work); the ties are given (YtbmbehkdidlolaaGreatDoorTie.lean); close each card by the builder's one call (the guide's Derived/Test/ToyasCard.lean, 'card_holds'). Laid BY PROGRAM, IN A SANDBOX (cutbox-door.mjs). By AI agents, Wed Nov 11 2026. No macro, syntax, notation, axiom, sorry.
-/
import Derived.Test.YtbmbehkdidlolaaGreatDoorRows
import GoSem.ClaimSeven
namespace Go.Proofs.YtbmbehkdidlolaaGreatDoor
namespace Rows

/-- THE TIED CARD OF 'laws.FnKeysToldOfAll'. -/
def fnKeysToldOfAllCard : Claim7 := { stood := { row := fnKeysToldOfAllRow, standIns := [], harness := (true, "a2ccd6ca6a8a4ce1016e453972ede517c9d34c31ae1fc9756bf80dab8379f5ee"), looks := false }, kinds := [], alts := [], laidByText := true, laidKinds := [.data, .pinned], laidTests := true, laidLooks := .later }
def FnKeysToldOfAllCardSaid : Prop := Claim7.holds Tryz.pinned (.plain (OpenSpec.ofChange fnKeysToldOfAllSpec)) fnKeysToldOfAllCard

/-- THE TIED CARD OF 'laws.FnKeysTold'. -/
def fnKeysToldCard : Claim7 := { stood := { row := fnKeysToldRow, standIns := [], harness := (true, "a2ccd6ca6a8a4ce1016e453972ede517c9d34c31ae1fc9756bf80dab8379f5ee"), looks := false }, kinds := [], alts := [], laidByText := true, laidKinds := [.data, .pinned], laidTests := true, laidLooks := .later }
def FnKeysToldCardSaid : Prop := Claim7.holds Tryz.pinned (.plain (OpenSpec.ofChange fnKeysToldSpec)) fnKeysToldCard

/-- THE SECOND FORM's CARD OF 'laws.FnKeysToldOfAll'. -/
def fnKeysToldOfAllUptoCard : Claim7 := { stood := { row := fnKeysToldOfAllUptoRow, standIns := [], harness := (true, "a2ccd6ca6a8a4ce1016e453972ede517c9d34c31ae1fc9756bf80dab8379f5ee"), looks := false }, kinds := [], alts := [], laidByText := true, laidKinds := [.data, .pinned], laidTests := true, laidLooks := .later }
def FnKeysToldOfAllUptoCardSaid : Prop := Claim7.holds Tryz.pinned (.plain (OpenSpec.upto fnKeysToldOfAllSpec)) fnKeysToldOfAllUptoCard

/-- THE SECOND FORM's CARD OF 'laws.FnKeysTold'. -/
def fnKeysToldUptoCard : Claim7 := { stood := { row := fnKeysToldUptoRow, standIns := [], harness := (true, "a2ccd6ca6a8a4ce1016e453972ede517c9d34c31ae1fc9756bf80dab8379f5ee"), looks := false }, kinds := [], alts := [], laidByText := true, laidKinds := [.data, .pinned], laidTests := true, laidLooks := .later }
def FnKeysToldUptoCardSaid : Prop := Claim7.holds Tryz.pinned (.plain (OpenSpec.upto fnKeysToldSpec)) fnKeysToldUptoCard
end Rows
end Go.Proofs.YtbmbehkdidlolaaGreatDoor
