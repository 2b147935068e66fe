/-
  DERIVED. GIVEN WITH THE SEED: THE CARDS: each row of YthjkjlfobgegpaaDoorRows.lean that lists a variable, with what it lists TIED to the program's text (the seventh form; the later family's looks); each row that meets fmt, with fmt's text TOLD by the authors' own Lean function (tested against real Go, not proved from fmt's source: count such statements apart). THE CARD IS WHAT COUNTS. Prove the row's statement (the work); the ties are given (YthjkjlfobgegpaaDoorTie.lean); close each card by the builder's one call (the guide's Derived/Test/ToyasCard.lean, 'card_holds'). Laid BY PROGRAM, IN A SANDBOX (cutbox-door.mjs). By AI agents, Wed Nov 11 2026. No macro, syntax, notation, axiom, sorry.
-/
import Derived.Test.YthjkjlfobgegpaaDoorRows
import GoSem.ClaimSeven
namespace Go.Proofs.YthjkjlfobgegpaaDoor
namespace Rows

/-- THE TIED CARD OF 'laws.FnExactTurnKeys'. -/
def fnExactTurnKeysCard : Claim7 := { stood := { row := fnExactTurnKeysRow, standIns := [], harness := (true, "bf91fac5e380b2072edc9acf702550d0193d60e3055f8ea20c52d662cb113762"), looks := false }, kinds := [], alts := [], laidByText := true, laidKinds := [.data, .pinned], laidTests := true, laidLooks := .later }
def FnExactTurnKeysCardSaid : Prop := Claim7.holds Tryd.pinned (.plain (OpenSpec.ofChange fnExactTurnKeysSpec)) fnExactTurnKeysCard

/-- THE TIED CARD OF 'laws.FnExactParseKeys'. -/
def fnExactParseKeysCard : Claim7 := { stood := { row := fnExactParseKeysRow, standIns := [], harness := (true, "bf91fac5e380b2072edc9acf702550d0193d60e3055f8ea20c52d662cb113762"), looks := false }, kinds := [], alts := [], laidByText := true, laidKinds := [.data, .pinned], laidTests := true, laidLooks := .later }
def FnExactParseKeysCardSaid : Prop := Claim7.holds Tryd.pinned (.plain (OpenSpec.ofChange fnExactParseKeysSpec)) fnExactParseKeysCard

/-- THE SECOND FORM's CARD OF 'laws.FnExactTurnKeys'. -/
def fnExactTurnKeysUptoCard : Claim7 := { stood := { row := fnExactTurnKeysUptoRow, standIns := [], harness := (true, "bf91fac5e380b2072edc9acf702550d0193d60e3055f8ea20c52d662cb113762"), looks := false }, kinds := [], alts := [], laidByText := true, laidKinds := [.data, .pinned], laidTests := true, laidLooks := .later }
def FnExactTurnKeysUptoCardSaid : Prop := Claim7.holds Tryd.pinned (.plain (OpenSpec.upto fnExactTurnKeysSpec)) fnExactTurnKeysUptoCard

/-- THE SECOND FORM's CARD OF 'laws.FnExactParseKeys'. -/
def fnExactParseKeysUptoCard : Claim7 := { stood := { row := fnExactParseKeysUptoRow, standIns := [], harness := (true, "bf91fac5e380b2072edc9acf702550d0193d60e3055f8ea20c52d662cb113762"), looks := false }, kinds := [], alts := [], laidByText := true, laidKinds := [.data, .pinned], laidTests := true, laidLooks := .later }
def FnExactParseKeysUptoCardSaid : Prop := Claim7.holds Tryd.pinned (.plain (OpenSpec.upto fnExactParseKeysSpec)) fnExactParseKeysUptoCard
end Rows
end Go.Proofs.YthjkjlfobgegpaaDoor
