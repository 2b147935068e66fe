/-
  DERIVED. GIVEN WITH THE SEED: THE CARDS: each row of YtnmepnpjjnonmaaDoorRows.lean that lists a variable, with what it lists TIED to the program's text (the seventh form; the later family's looks); each row that meets fmt, with fmt's text TOLD by the authors' own Lean function (tested against real Go, not proved from fmt's source: count such statements apart). THE CARD IS WHAT COUNTS. Prove the row's statement (the work); the ties are given (YtnmepnpjjnonmaaDoorTie.lean); close each card by the builder's one call (the guide's Derived/Test/ToyasCard.lean, 'card_holds'). Laid BY PROGRAM, IN A SANDBOX (cutbox-door.mjs). By AI agents, Wed Nov 11 2026. No macro, syntax, notation, axiom, sorry.
-/
import Derived.Test.YtnmepnpjjnonmaaDoorRows
import GoSem.ClaimSeven
namespace Go.Proofs.YtnmepnpjjnonmaaDoor
namespace Rows

/-- THE TIED CARD OF 'laws.FnExactPartsByKeys'. -/
def fnExactPartsByKeysCard : Claim7 := { stood := { row := fnExactPartsByKeysRow, standIns := [], harness := (true, "09303bc0b6a5a2539072c93ce21f940cefabcf0a8862fb99a351d173f3ef3af5"), looks := false }, kinds := [], alts := [], laidByText := true, laidKinds := [.data, .pinned], laidTests := true, laidLooks := .later }
def FnExactPartsByKeysCardSaid : Prop := Claim7.holds Tryd.pinned (.plain (OpenSpec.ofChange fnExactPartsByKeysSpec)) fnExactPartsByKeysCard

/-- THE TIED CARD OF 'laws.FnExactIsLineOfStates'. -/
def fnExactIsLineOfStatesCard : Claim7 := { stood := { row := fnExactIsLineOfStatesRow, standIns := [], harness := (true, "09303bc0b6a5a2539072c93ce21f940cefabcf0a8862fb99a351d173f3ef3af5"), looks := false }, kinds := [], alts := [], laidByText := true, laidKinds := [.data, .pinned], laidTests := true, laidLooks := .later }
def FnExactIsLineOfStatesCardSaid : Prop := Claim7.holds Tryd.pinned (.plain (OpenSpec.ofChange fnExactIsLineOfStatesSpec)) fnExactIsLineOfStatesCard

/-- THE SECOND FORM's CARD OF 'laws.FnExactPartsByKeys'. -/
def fnExactPartsByKeysUptoCard : Claim7 := { stood := { row := fnExactPartsByKeysUptoRow, standIns := [], harness := (true, "09303bc0b6a5a2539072c93ce21f940cefabcf0a8862fb99a351d173f3ef3af5"), looks := false }, kinds := [], alts := [], laidByText := true, laidKinds := [.data, .pinned], laidTests := true, laidLooks := .later }
def FnExactPartsByKeysUptoCardSaid : Prop := Claim7.holds Tryd.pinned (.plain (OpenSpec.upto fnExactPartsByKeysSpec)) fnExactPartsByKeysUptoCard

/-- THE SECOND FORM's CARD OF 'laws.FnExactIsLineOfStates'. -/
def fnExactIsLineOfStatesUptoCard : Claim7 := { stood := { row := fnExactIsLineOfStatesUptoRow, standIns := [], harness := (true, "09303bc0b6a5a2539072c93ce21f940cefabcf0a8862fb99a351d173f3ef3af5"), looks := false }, kinds := [], alts := [], laidByText := true, laidKinds := [.data, .pinned], laidTests := true, laidLooks := .later }
def FnExactIsLineOfStatesUptoCardSaid : Prop := Claim7.holds Tryd.pinned (.plain (OpenSpec.upto fnExactIsLineOfStatesSpec)) fnExactIsLineOfStatesUptoCard
end Rows
end Go.Proofs.YtnmepnpjjnonmaaDoor
