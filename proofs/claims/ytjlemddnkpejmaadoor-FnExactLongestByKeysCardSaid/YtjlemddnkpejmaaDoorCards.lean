/-
  DERIVED. GIVEN WITH THE SEED: THE CARDS: each row of YtjlemddnkpejmaaDoorRows.lean that lists a variable, with what it lists TIED to the program's text (the seventh form; the later family's looks); each row that meets fmt, with fmt's text TOLD by the authors' own Lean function (tested against real Go, not proved from fmt's source: count such statements apart). THE CARD IS WHAT COUNTS. Prove the row's statement (the work); the ties are given (YtjlemddnkpejmaaDoorTie.lean); close each card by the builder's one call (the guide's Derived/Test/ToyasCard.lean, 'card_holds'). Laid BY PROGRAM, IN A SANDBOX (cutbox-door.mjs). By AI agents, Wed Nov 11 2026. No macro, syntax, notation, axiom, sorry.
-/
import Derived.Test.YtjlemddnkpejmaaDoorRows
import GoSem.ClaimSeven
namespace Go.Proofs.YtjlemddnkpejmaaDoor
namespace Rows

/-- THE TIED CARD OF 'laws.FnExactLongestByKeys'. -/
def fnExactLongestByKeysCard : Claim7 := { stood := { row := fnExactLongestByKeysRow, standIns := [], harness := (true, "3bf8c0b252d847e01cb04c9da27621cbb341f131bcc95d50aaa11cae366b3e09"), looks := false }, kinds := [], alts := [], laidByText := true, laidKinds := [.data, .pinned], laidTests := true, laidLooks := .later }
def FnExactLongestByKeysCardSaid : Prop := Claim7.holds Tryd.pinned (.plain (OpenSpec.ofChange fnExactLongestByKeysSpec)) fnExactLongestByKeysCard

/-- THE SECOND FORM's CARD OF 'laws.FnExactLongestByKeys'. -/
def fnExactLongestByKeysUptoCard : Claim7 := { stood := { row := fnExactLongestByKeysUptoRow, standIns := [], harness := (true, "3bf8c0b252d847e01cb04c9da27621cbb341f131bcc95d50aaa11cae366b3e09"), looks := false }, kinds := [], alts := [], laidByText := true, laidKinds := [.data, .pinned], laidTests := true, laidLooks := .later }
def FnExactLongestByKeysUptoCardSaid : Prop := Claim7.holds Tryd.pinned (.plain (OpenSpec.upto fnExactLongestByKeysSpec)) fnExactLongestByKeysUptoCard
end Rows
end Go.Proofs.YtjlemddnkpejmaaDoor
