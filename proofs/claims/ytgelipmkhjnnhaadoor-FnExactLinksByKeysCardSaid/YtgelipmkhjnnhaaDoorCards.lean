/-
  DERIVED. GIVEN WITH THE SEED: THE CARDS: each row of YtgelipmkhjnnhaaDoorRows.lean that lists a variable, with what it lists TIED to the program's text (the seventh form; the later family's looks); each row that meets fmt, with fmt's text TOLD by the authors' own Lean function (tested against real Go, not proved from fmt's source: count such statements apart). THE CARD IS WHAT COUNTS. Prove the row's statement (the work); the ties are given (YtgelipmkhjnnhaaDoorTie.lean); close each card by the builder's one call (the guide's Derived/Test/ToyasCard.lean, 'card_holds'). Laid BY PROGRAM, IN A SANDBOX (cutbox-door.mjs). By AI agents, Wed Nov 11 2026. No macro, syntax, notation, axiom, sorry.
-/
import Derived.Test.YtgelipmkhjnnhaaDoorRows
import GoSem.ClaimSeven
namespace Go.Proofs.YtgelipmkhjnnhaaDoor
namespace Rows

/-- THE TIED CARD OF 'laws.FnExactLinksByKeys'. -/
def fnExactLinksByKeysCard : Claim7 := { stood := { row := fnExactLinksByKeysRow, standIns := [], harness := (true, "8136bbec8b621833bb62d61e4e4b6691faa26a462e65e32321badceb6aa785aa"), looks := false }, kinds := [], alts := [], laidByText := true, laidKinds := [.data, .pinned], laidTests := true, laidLooks := .later }
def FnExactLinksByKeysCardSaid : Prop := Claim7.holds Tryd.pinned (.plain (OpenSpec.ofChange fnExactLinksByKeysSpec)) fnExactLinksByKeysCard

/-- THE SECOND FORM's CARD OF 'laws.FnExactLinksByKeys'. -/
def fnExactLinksByKeysUptoCard : Claim7 := { stood := { row := fnExactLinksByKeysUptoRow, standIns := [], harness := (true, "8136bbec8b621833bb62d61e4e4b6691faa26a462e65e32321badceb6aa785aa"), looks := false }, kinds := [], alts := [], laidByText := true, laidKinds := [.data, .pinned], laidTests := true, laidLooks := .later }
def FnExactLinksByKeysUptoCardSaid : Prop := Claim7.holds Tryd.pinned (.plain (OpenSpec.upto fnExactLinksByKeysSpec)) fnExactLinksByKeysUptoCard
end Rows
end Go.Proofs.YtgelipmkhjnnhaaDoor
