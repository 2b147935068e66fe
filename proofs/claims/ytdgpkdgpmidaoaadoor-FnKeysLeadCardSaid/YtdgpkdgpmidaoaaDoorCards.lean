/-
  DERIVED. GIVEN WITH THE SEED: THE CARDS: each row of YtdgpkdgpmidaoaaDoorRows.lean that lists a variable, with what it lists TIED to the program's text (the seventh form; the later family's looks); each row that meets fmt, with fmt's text TOLD by the authors' own Lean function (tested against real Go, not proved from fmt's source: count such statements apart). THE CARD IS WHAT COUNTS. Prove the row's statement (the work); the ties are given (YtdgpkdgpmidaoaaDoorTie.lean); close each card by the builder's one call (the guide's Derived/Test/ToyasCard.lean, 'card_holds'). Laid BY PROGRAM, IN A SANDBOX (cutbox-door.mjs). By AI agents, Wed Nov 11 2026. No macro, syntax, notation, axiom, sorry.
-/
import Derived.Test.YtdgpkdgpmidaoaaDoorRows
import GoSem.ClaimSeven
namespace Go.Proofs.YtdgpkdgpmidaoaaDoor
namespace Rows

/-- THE TIED CARD OF 'laws.FnKeysLead'. -/
def fnKeysLeadCard : Claim7 := { stood := { row := fnKeysLeadRow, standIns := [], harness := (true, "9736c68dfda746ee908bf86edd46e37b930499c1042931f95e62dd79e139ba52"), looks := false }, kinds := [], alts := [], laidByText := true, laidKinds := [.data, .pinned], laidTests := true, laidLooks := .later }
def FnKeysLeadCardSaid : Prop := Claim7.holds Tryd.pinned (.plain (OpenSpec.ofChange fnKeysLeadSpec)) fnKeysLeadCard

/-- THE SECOND FORM's CARD OF 'laws.FnKeysLead'. -/
def fnKeysLeadUptoCard : Claim7 := { stood := { row := fnKeysLeadUptoRow, standIns := [], harness := (true, "9736c68dfda746ee908bf86edd46e37b930499c1042931f95e62dd79e139ba52"), looks := false }, kinds := [], alts := [], laidByText := true, laidKinds := [.data, .pinned], laidTests := true, laidLooks := .later }
def FnKeysLeadUptoCardSaid : Prop := Claim7.holds Tryd.pinned (.plain (OpenSpec.upto fnKeysLeadSpec)) fnKeysLeadUptoCard
end Rows
end Go.Proofs.YtdgpkdgpmidaoaaDoor
