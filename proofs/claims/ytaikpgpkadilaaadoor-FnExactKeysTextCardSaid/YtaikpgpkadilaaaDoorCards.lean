/-
  DERIVED. GIVEN WITH THE SEED: THE CARDS: each row of YtaikpgpkadilaaaDoorRows.lean that lists a variable, with what it lists TIED to the program's text (the seventh form; the later family's looks); each row that meets fmt, with fmt's text TOLD by the authors' own Lean function (tested against real Go, not proved from fmt's source: count such statements apart). THE CARD IS WHAT COUNTS. Prove the row's statement (the work); the ties are given (YtaikpgpkadilaaaDoorTie.lean); close each card by the builder's one call (the guide's Derived/Test/ToyasCard.lean, 'card_holds'). Laid BY PROGRAM, IN A SANDBOX (cutbox-door.mjs). By AI agents, Wed Nov 11 2026. No macro, syntax, notation, axiom, sorry.
-/
import Derived.Test.YtaikpgpkadilaaaDoorRows
import GoSem.ClaimSeven
namespace Go.Proofs.YtaikpgpkadilaaaDoor
namespace Rows

/-- THE TIED CARD OF 'laws.FnExactKeysText'. -/
def fnExactKeysTextCard : Claim7 := { stood := { row := fnExactKeysTextRow, standIns := [], harness := (true, "a22cf10e9264ce2a64f5cdbc669600b6fab51f539eb079b4387a7daa6010156b"), looks := false }, kinds := [], alts := [], laidByText := true, laidKinds := [.data, .pinned], laidTests := true, laidLooks := .later }
def FnExactKeysTextCardSaid : Prop := Claim7.holds Tryd.pinned (.plain (OpenSpec.ofChange fnExactKeysTextSpec)) fnExactKeysTextCard

/-- THE SECOND FORM's CARD OF 'laws.FnExactKeysText'. -/
def fnExactKeysTextUptoCard : Claim7 := { stood := { row := fnExactKeysTextUptoRow, standIns := [], harness := (true, "a22cf10e9264ce2a64f5cdbc669600b6fab51f539eb079b4387a7daa6010156b"), looks := false }, kinds := [], alts := [], laidByText := true, laidKinds := [.data, .pinned], laidTests := true, laidLooks := .later }
def FnExactKeysTextUptoCardSaid : Prop := Claim7.holds Tryd.pinned (.plain (OpenSpec.upto fnExactKeysTextSpec)) fnExactKeysTextUptoCard
end Rows
end Go.Proofs.YtaikpgpkadilaaaDoor
