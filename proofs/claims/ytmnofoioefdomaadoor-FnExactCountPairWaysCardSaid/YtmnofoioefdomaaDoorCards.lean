/-
  DERIVED. GIVEN WITH THE SEED: THE CARDS: each row of YtmnofoioefdomaaDoorRows.lean that lists a variable, with what it lists TIED to the program's text (the seventh form; the later family's looks); each row that meets fmt, with fmt's text TOLD by the authors' own Lean function (tested against real Go, not proved from fmt's source: count such statements apart). THE CARD IS WHAT COUNTS. Prove the row's statement (the work); the ties are given (YtmnofoioefdomaaDoorTie.lean); close each card by the builder's one call (the guide's Derived/Test/ToyasCard.lean, 'card_holds'). Laid BY PROGRAM, IN A SANDBOX (cutbox-door.mjs). By AI agents, Wed Nov 11 2026. No macro, syntax, notation, axiom, sorry.
-/
import Derived.Test.YtmnofoioefdomaaDoorRows
import GoSem.ClaimSeven
namespace Go.Proofs.YtmnofoioefdomaaDoor
namespace Rows

/-- THE TIED CARD OF 'laws.FnExactCountPairWays'. -/
def fnExactCountPairWaysCard : Claim7 := { stood := { row := fnExactCountPairWaysRow, standIns := [], harness := (true, "c76f4d1f3d267c83d33cb78a8762fa0a7c0ddfc50070aa4a1977679910142d7d"), looks := false }, kinds := [], alts := [], laidByText := true, laidKinds := [.data, .pinned], laidTests := true, laidLooks := .later }
def FnExactCountPairWaysCardSaid : Prop := Claim7.holds Tryd.pinned (.plain (OpenSpec.ofChange fnExactCountPairWaysSpec)) fnExactCountPairWaysCard

/-- THE TIED CARD OF 'laws.FnExactFewestPairMoves'. -/
def fnExactFewestPairMovesCard : Claim7 := { stood := { row := fnExactFewestPairMovesRow, standIns := [], harness := (true, "c76f4d1f3d267c83d33cb78a8762fa0a7c0ddfc50070aa4a1977679910142d7d"), looks := false }, kinds := [], alts := [], laidByText := true, laidKinds := [.data, .pinned], laidTests := true, laidLooks := .later }
def FnExactFewestPairMovesCardSaid : Prop := Claim7.holds Tryd.pinned (.plain (OpenSpec.ofChange fnExactFewestPairMovesSpec)) fnExactFewestPairMovesCard

/-- THE TIED CARD OF 'laws.FnExactCountByPairs'. -/
def fnExactCountByPairsCard : Claim7 := { stood := { row := fnExactCountByPairsRow, standIns := [], harness := (true, "c76f4d1f3d267c83d33cb78a8762fa0a7c0ddfc50070aa4a1977679910142d7d"), looks := false }, kinds := [], alts := [], laidByText := true, laidKinds := [.data, .pinned], laidTests := true, laidLooks := .later }
def FnExactCountByPairsCardSaid : Prop := Claim7.holds Tryd.pinned (.plain (OpenSpec.ofChange fnExactCountByPairsSpec)) fnExactCountByPairsCard

/-- THE TIED CARD OF 'laws.FnExactMostSaved'. -/
def fnExactMostSavedCard : Claim7 := { stood := { row := fnExactMostSavedRow, standIns := [], harness := (true, "c76f4d1f3d267c83d33cb78a8762fa0a7c0ddfc50070aa4a1977679910142d7d"), looks := false }, kinds := [], alts := [], laidByText := true, laidKinds := [.data, .pinned], laidTests := true, laidLooks := .later }
def FnExactMostSavedCardSaid : Prop := Claim7.holds Tryd.pinned (.plain (OpenSpec.ofChange fnExactMostSavedSpec)) fnExactMostSavedCard

/-- THE TIED CARD OF 'laws.FnExactSavedByPairs'. -/
def fnExactSavedByPairsCard : Claim7 := { stood := { row := fnExactSavedByPairsRow, standIns := [], harness := (true, "c76f4d1f3d267c83d33cb78a8762fa0a7c0ddfc50070aa4a1977679910142d7d"), looks := false }, kinds := [], alts := [], laidByText := true, laidKinds := [.data, .pinned], laidTests := true, laidLooks := .later }
def FnExactSavedByPairsCardSaid : Prop := Claim7.holds Tryd.pinned (.plain (OpenSpec.ofChange fnExactSavedByPairsSpec)) fnExactSavedByPairsCard

/-- THE TIED CARD OF 'laws.FnExactNearByPairs'. -/
def fnExactNearByPairsCard : Claim7 := { stood := { row := fnExactNearByPairsRow, standIns := [], harness := (true, "c76f4d1f3d267c83d33cb78a8762fa0a7c0ddfc50070aa4a1977679910142d7d"), looks := false }, kinds := [], alts := [], laidByText := true, laidKinds := [.data, .pinned], laidTests := true, laidLooks := .later }
def FnExactNearByPairsCardSaid : Prop := Claim7.holds Tryd.pinned (.plain (OpenSpec.ofChange fnExactNearByPairsSpec)) fnExactNearByPairsCard

/-- THE TIED CARD OF 'laws.FnExactFarthestByPairs'. -/
def fnExactFarthestByPairsCard : Claim7 := { stood := { row := fnExactFarthestByPairsRow, standIns := [], harness := (true, "c76f4d1f3d267c83d33cb78a8762fa0a7c0ddfc50070aa4a1977679910142d7d"), looks := false }, kinds := [], alts := [], laidByText := true, laidKinds := [.data, .pinned], laidTests := true, laidLooks := .later }
def FnExactFarthestByPairsCardSaid : Prop := Claim7.holds Tryd.pinned (.plain (OpenSpec.ofChange fnExactFarthestByPairsSpec)) fnExactFarthestByPairsCard

/-- THE TIED CARD OF 'laws.FnExactPairMovesToClear'. -/
def fnExactPairMovesToClearCard : Claim7 := { stood := { row := fnExactPairMovesToClearRow, standIns := [], harness := (true, "c76f4d1f3d267c83d33cb78a8762fa0a7c0ddfc50070aa4a1977679910142d7d"), looks := false }, kinds := [], alts := [], laidByText := true, laidKinds := [.data, .pinned], laidTests := true, laidLooks := .later }
def FnExactPairMovesToClearCardSaid : Prop := Claim7.holds Tryd.pinned (.plain (OpenSpec.ofChange fnExactPairMovesToClearSpec)) fnExactPairMovesToClearCard

/-- THE TIED CARD OF 'laws.FnPairsNearOfAll'. -/
def fnPairsNearOfAllCard : Claim7 := { stood := { row := fnPairsNearOfAllRow, standIns := [], harness := (true, "c76f4d1f3d267c83d33cb78a8762fa0a7c0ddfc50070aa4a1977679910142d7d"), looks := false }, kinds := [], alts := [], laidByText := true, laidKinds := [.data, .pinned], laidTests := true, laidLooks := .later }
def FnPairsNearOfAllCardSaid : Prop := Claim7.holds Tryd.pinned (.plain (OpenSpec.ofChange fnPairsNearOfAllSpec)) fnPairsNearOfAllCard

/-- THE TIED CARD OF 'laws.FnPairsMove'. -/
def fnPairsMoveCard : Claim7 := { stood := { row := fnPairsMoveRow, standIns := [], harness := (true, "c76f4d1f3d267c83d33cb78a8762fa0a7c0ddfc50070aa4a1977679910142d7d"), looks := false }, kinds := [], alts := [], laidByText := true, laidKinds := [.data, .pinned], laidTests := true, laidLooks := .later }
def FnPairsMoveCardSaid : Prop := Claim7.holds Tryd.pinned (.plain (OpenSpec.ofChange fnPairsMoveSpec)) fnPairsMoveCard

/-- THE SECOND FORM's CARD OF 'laws.FnExactCountPairWays'. -/
def fnExactCountPairWaysUptoCard : Claim7 := { stood := { row := fnExactCountPairWaysUptoRow, standIns := [], harness := (true, "c76f4d1f3d267c83d33cb78a8762fa0a7c0ddfc50070aa4a1977679910142d7d"), looks := false }, kinds := [], alts := [], laidByText := true, laidKinds := [.data, .pinned], laidTests := true, laidLooks := .later }
def FnExactCountPairWaysUptoCardSaid : Prop := Claim7.holds Tryd.pinned (.plain (OpenSpec.upto fnExactCountPairWaysSpec)) fnExactCountPairWaysUptoCard

/-- THE SECOND FORM's CARD OF 'laws.FnExactFewestPairMoves'. -/
def fnExactFewestPairMovesUptoCard : Claim7 := { stood := { row := fnExactFewestPairMovesUptoRow, standIns := [], harness := (true, "c76f4d1f3d267c83d33cb78a8762fa0a7c0ddfc50070aa4a1977679910142d7d"), looks := false }, kinds := [], alts := [], laidByText := true, laidKinds := [.data, .pinned], laidTests := true, laidLooks := .later }
def FnExactFewestPairMovesUptoCardSaid : Prop := Claim7.holds Tryd.pinned (.plain (OpenSpec.upto fnExactFewestPairMovesSpec)) fnExactFewestPairMovesUptoCard

/-- THE SECOND FORM's CARD OF 'laws.FnExactCountByPairs'. -/
def fnExactCountByPairsUptoCard : Claim7 := { stood := { row := fnExactCountByPairsUptoRow, standIns := [], harness := (true, "c76f4d1f3d267c83d33cb78a8762fa0a7c0ddfc50070aa4a1977679910142d7d"), looks := false }, kinds := [], alts := [], laidByText := true, laidKinds := [.data, .pinned], laidTests := true, laidLooks := .later }
def FnExactCountByPairsUptoCardSaid : Prop := Claim7.holds Tryd.pinned (.plain (OpenSpec.upto fnExactCountByPairsSpec)) fnExactCountByPairsUptoCard

/-- THE SECOND FORM's CARD OF 'laws.FnExactMostSaved'. -/
def fnExactMostSavedUptoCard : Claim7 := { stood := { row := fnExactMostSavedUptoRow, standIns := [], harness := (true, "c76f4d1f3d267c83d33cb78a8762fa0a7c0ddfc50070aa4a1977679910142d7d"), looks := false }, kinds := [], alts := [], laidByText := true, laidKinds := [.data, .pinned], laidTests := true, laidLooks := .later }
def FnExactMostSavedUptoCardSaid : Prop := Claim7.holds Tryd.pinned (.plain (OpenSpec.upto fnExactMostSavedSpec)) fnExactMostSavedUptoCard

/-- THE SECOND FORM's CARD OF 'laws.FnExactSavedByPairs'. -/
def fnExactSavedByPairsUptoCard : Claim7 := { stood := { row := fnExactSavedByPairsUptoRow, standIns := [], harness := (true, "c76f4d1f3d267c83d33cb78a8762fa0a7c0ddfc50070aa4a1977679910142d7d"), looks := false }, kinds := [], alts := [], laidByText := true, laidKinds := [.data, .pinned], laidTests := true, laidLooks := .later }
def FnExactSavedByPairsUptoCardSaid : Prop := Claim7.holds Tryd.pinned (.plain (OpenSpec.upto fnExactSavedByPairsSpec)) fnExactSavedByPairsUptoCard

/-- THE SECOND FORM's CARD OF 'laws.FnExactNearByPairs'. -/
def fnExactNearByPairsUptoCard : Claim7 := { stood := { row := fnExactNearByPairsUptoRow, standIns := [], harness := (true, "c76f4d1f3d267c83d33cb78a8762fa0a7c0ddfc50070aa4a1977679910142d7d"), looks := false }, kinds := [], alts := [], laidByText := true, laidKinds := [.data, .pinned], laidTests := true, laidLooks := .later }
def FnExactNearByPairsUptoCardSaid : Prop := Claim7.holds Tryd.pinned (.plain (OpenSpec.upto fnExactNearByPairsSpec)) fnExactNearByPairsUptoCard

/-- THE SECOND FORM's CARD OF 'laws.FnExactFarthestByPairs'. -/
def fnExactFarthestByPairsUptoCard : Claim7 := { stood := { row := fnExactFarthestByPairsUptoRow, standIns := [], harness := (true, "c76f4d1f3d267c83d33cb78a8762fa0a7c0ddfc50070aa4a1977679910142d7d"), looks := false }, kinds := [], alts := [], laidByText := true, laidKinds := [.data, .pinned], laidTests := true, laidLooks := .later }
def FnExactFarthestByPairsUptoCardSaid : Prop := Claim7.holds Tryd.pinned (.plain (OpenSpec.upto fnExactFarthestByPairsSpec)) fnExactFarthestByPairsUptoCard

/-- THE SECOND FORM's CARD OF 'laws.FnExactPairMovesToClear'. -/
def fnExactPairMovesToClearUptoCard : Claim7 := { stood := { row := fnExactPairMovesToClearUptoRow, standIns := [], harness := (true, "c76f4d1f3d267c83d33cb78a8762fa0a7c0ddfc50070aa4a1977679910142d7d"), looks := false }, kinds := [], alts := [], laidByText := true, laidKinds := [.data, .pinned], laidTests := true, laidLooks := .later }
def FnExactPairMovesToClearUptoCardSaid : Prop := Claim7.holds Tryd.pinned (.plain (OpenSpec.upto fnExactPairMovesToClearSpec)) fnExactPairMovesToClearUptoCard

/-- THE SECOND FORM's CARD OF 'laws.FnPairsNearOfAll'. -/
def fnPairsNearOfAllUptoCard : Claim7 := { stood := { row := fnPairsNearOfAllUptoRow, standIns := [], harness := (true, "c76f4d1f3d267c83d33cb78a8762fa0a7c0ddfc50070aa4a1977679910142d7d"), looks := false }, kinds := [], alts := [], laidByText := true, laidKinds := [.data, .pinned], laidTests := true, laidLooks := .later }
def FnPairsNearOfAllUptoCardSaid : Prop := Claim7.holds Tryd.pinned (.plain (OpenSpec.upto fnPairsNearOfAllSpec)) fnPairsNearOfAllUptoCard

/-- THE SECOND FORM's CARD OF 'laws.FnPairsMove'. -/
def fnPairsMoveUptoCard : Claim7 := { stood := { row := fnPairsMoveUptoRow, standIns := [], harness := (true, "c76f4d1f3d267c83d33cb78a8762fa0a7c0ddfc50070aa4a1977679910142d7d"), looks := false }, kinds := [], alts := [], laidByText := true, laidKinds := [.data, .pinned], laidTests := true, laidLooks := .later }
def FnPairsMoveUptoCardSaid : Prop := Claim7.holds Tryd.pinned (.plain (OpenSpec.upto fnPairsMoveSpec)) fnPairsMoveUptoCard
end Rows
end Go.Proofs.YtmnofoioefdomaaDoor
