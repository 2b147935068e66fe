/-
  DERIVED. GIVEN WITH THE SEED: THE CARDS: each row of YtbgkcbppkhakhaaDoorRows.lean that lists a variable, with what it lists TIED to the program's text (the seventh form; the later family's looks); each row that meets fmt, with fmt's text TOLD by the authors' own Lean function (tested against real Go, not proved from fmt's source: count such statements apart). THE CARD IS WHAT COUNTS. Prove the row's statement (the work); the ties are given (YtbgkcbppkhakhaaDoorTie.lean); close each card by the builder's one call (the guide's Derived/Test/ToyasCard.lean, 'card_holds'). Laid BY PROGRAM, IN A SANDBOX (cutbox-door.mjs). By AI agents, Wed Nov 11 2026. No macro, syntax, notation, axiom, sorry.
-/
import Derived.Test.YtbgkcbppkhakhaaDoorRows
import GoSem.ClaimSeven
namespace Go.Proofs.YtbgkcbppkhakhaaDoor
namespace Rows

/-- THE TIED CARD OF 'laws.FnExactFitsKey'. -/
def fnExactFitsKeyCard : Claim7 := { stood := { row := fnExactFitsKeyRow, standIns := [], harness := (true, "8f5f712e94dcd33f15a799f48755bec1622963e6885ebd6d973447c06ef40bcc"), looks := false }, kinds := [], alts := [], laidByText := true, laidKinds := [.data, .pinned], laidTests := true, laidLooks := .later }
def FnExactFitsKeyCardSaid : Prop := Claim7.holds Tryd.pinned (.plain (OpenSpec.ofChange fnExactFitsKeySpec)) fnExactFitsKeyCard

/-- THE TIED CARD OF 'laws.FnExactMoveKeyed'. -/
def fnExactMoveKeyedCard : Claim7 := { stood := { row := fnExactMoveKeyedRow, standIns := [], harness := (true, "8f5f712e94dcd33f15a799f48755bec1622963e6885ebd6d973447c06ef40bcc"), looks := false }, kinds := [], alts := [], laidByText := true, laidKinds := [.data, .pinned], laidTests := true, laidLooks := .later }
def FnExactMoveKeyedCardSaid : Prop := Claim7.holds Tryd.pinned (.plain (OpenSpec.ofChange fnExactMoveKeyedSpec)) fnExactMoveKeyedCard

/-- THE TIED CARD OF 'laws.FnExactKeyedMoves'. -/
def fnExactKeyedMovesCard : Claim7 := { stood := { row := fnExactKeyedMovesRow, standIns := [], harness := (true, "8f5f712e94dcd33f15a799f48755bec1622963e6885ebd6d973447c06ef40bcc"), looks := false }, kinds := [], alts := [], laidByText := true, laidKinds := [.data, .pinned], laidTests := true, laidLooks := .later }
def FnExactKeyedMovesCardSaid : Prop := Claim7.holds Tryd.pinned (.plain (OpenSpec.ofChange fnExactKeyedMovesSpec)) fnExactKeyedMovesCard

/-- THE TIED CARD OF 'laws.FnExactFewestKeyed'. -/
def fnExactFewestKeyedCard : Claim7 := { stood := { row := fnExactFewestKeyedRow, standIns := [], harness := (true, "8f5f712e94dcd33f15a799f48755bec1622963e6885ebd6d973447c06ef40bcc"), looks := false }, kinds := [], alts := [], laidByText := true, laidKinds := [.data, .pinned], laidTests := true, laidLooks := .later }
def FnExactFewestKeyedCardSaid : Prop := Claim7.holds Tryd.pinned (.plain (OpenSpec.ofChange fnExactFewestKeyedSpec)) fnExactFewestKeyedCard

/-- THE TIED CARD OF 'laws.FnExactCountReachedBy'. -/
def fnExactCountReachedByCard : Claim7 := { stood := { row := fnExactCountReachedByRow, standIns := [], harness := (true, "8f5f712e94dcd33f15a799f48755bec1622963e6885ebd6d973447c06ef40bcc"), looks := false }, kinds := [], alts := [], laidByText := true, laidKinds := [.data, .pinned], laidTests := true, laidLooks := .later }
def FnExactCountReachedByCardSaid : Prop := Claim7.holds Tryd.pinned (.plain (OpenSpec.ofChange fnExactCountReachedBySpec)) fnExactCountReachedByCard

/-- THE TIED CARD OF 'laws.FnExactFarthestByKeys'. -/
def fnExactFarthestByKeysCard : Claim7 := { stood := { row := fnExactFarthestByKeysRow, standIns := [], harness := (true, "8f5f712e94dcd33f15a799f48755bec1622963e6885ebd6d973447c06ef40bcc"), looks := false }, kinds := [], alts := [], laidByText := true, laidKinds := [.data, .pinned], laidTests := true, laidLooks := .later }
def FnExactFarthestByKeysCardSaid : Prop := Claim7.holds Tryd.pinned (.plain (OpenSpec.ofChange fnExactFarthestByKeysSpec)) fnExactFarthestByKeysCard

/-- THE TIED CARD OF 'laws.FnExactFirstKeyed'. -/
def fnExactFirstKeyedCard : Claim7 := { stood := { row := fnExactFirstKeyedRow, standIns := [], harness := (true, "8f5f712e94dcd33f15a799f48755bec1622963e6885ebd6d973447c06ef40bcc"), looks := false }, kinds := [], alts := [], laidByText := true, laidKinds := [.data, .pinned], laidTests := true, laidLooks := .later }
def FnExactFirstKeyedCardSaid : Prop := Claim7.holds Tryd.pinned (.plain (OpenSpec.ofChange fnExactFirstKeyedSpec)) fnExactFirstKeyedCard

/-- THE SECOND FORM's CARD OF 'laws.FnExactFitsKey'. -/
def fnExactFitsKeyUptoCard : Claim7 := { stood := { row := fnExactFitsKeyUptoRow, standIns := [], harness := (true, "8f5f712e94dcd33f15a799f48755bec1622963e6885ebd6d973447c06ef40bcc"), looks := false }, kinds := [], alts := [], laidByText := true, laidKinds := [.data, .pinned], laidTests := true, laidLooks := .later }
def FnExactFitsKeyUptoCardSaid : Prop := Claim7.holds Tryd.pinned (.plain (OpenSpec.upto fnExactFitsKeySpec)) fnExactFitsKeyUptoCard

/-- THE SECOND FORM's CARD OF 'laws.FnExactMoveKeyed'. -/
def fnExactMoveKeyedUptoCard : Claim7 := { stood := { row := fnExactMoveKeyedUptoRow, standIns := [], harness := (true, "8f5f712e94dcd33f15a799f48755bec1622963e6885ebd6d973447c06ef40bcc"), looks := false }, kinds := [], alts := [], laidByText := true, laidKinds := [.data, .pinned], laidTests := true, laidLooks := .later }
def FnExactMoveKeyedUptoCardSaid : Prop := Claim7.holds Tryd.pinned (.plain (OpenSpec.upto fnExactMoveKeyedSpec)) fnExactMoveKeyedUptoCard

/-- THE SECOND FORM's CARD OF 'laws.FnExactKeyedMoves'. -/
def fnExactKeyedMovesUptoCard : Claim7 := { stood := { row := fnExactKeyedMovesUptoRow, standIns := [], harness := (true, "8f5f712e94dcd33f15a799f48755bec1622963e6885ebd6d973447c06ef40bcc"), looks := false }, kinds := [], alts := [], laidByText := true, laidKinds := [.data, .pinned], laidTests := true, laidLooks := .later }
def FnExactKeyedMovesUptoCardSaid : Prop := Claim7.holds Tryd.pinned (.plain (OpenSpec.upto fnExactKeyedMovesSpec)) fnExactKeyedMovesUptoCard

/-- THE SECOND FORM's CARD OF 'laws.FnExactFewestKeyed'. -/
def fnExactFewestKeyedUptoCard : Claim7 := { stood := { row := fnExactFewestKeyedUptoRow, standIns := [], harness := (true, "8f5f712e94dcd33f15a799f48755bec1622963e6885ebd6d973447c06ef40bcc"), looks := false }, kinds := [], alts := [], laidByText := true, laidKinds := [.data, .pinned], laidTests := true, laidLooks := .later }
def FnExactFewestKeyedUptoCardSaid : Prop := Claim7.holds Tryd.pinned (.plain (OpenSpec.upto fnExactFewestKeyedSpec)) fnExactFewestKeyedUptoCard

/-- THE SECOND FORM's CARD OF 'laws.FnExactCountReachedBy'. -/
def fnExactCountReachedByUptoCard : Claim7 := { stood := { row := fnExactCountReachedByUptoRow, standIns := [], harness := (true, "8f5f712e94dcd33f15a799f48755bec1622963e6885ebd6d973447c06ef40bcc"), looks := false }, kinds := [], alts := [], laidByText := true, laidKinds := [.data, .pinned], laidTests := true, laidLooks := .later }
def FnExactCountReachedByUptoCardSaid : Prop := Claim7.holds Tryd.pinned (.plain (OpenSpec.upto fnExactCountReachedBySpec)) fnExactCountReachedByUptoCard

/-- THE SECOND FORM's CARD OF 'laws.FnExactFarthestByKeys'. -/
def fnExactFarthestByKeysUptoCard : Claim7 := { stood := { row := fnExactFarthestByKeysUptoRow, standIns := [], harness := (true, "8f5f712e94dcd33f15a799f48755bec1622963e6885ebd6d973447c06ef40bcc"), looks := false }, kinds := [], alts := [], laidByText := true, laidKinds := [.data, .pinned], laidTests := true, laidLooks := .later }
def FnExactFarthestByKeysUptoCardSaid : Prop := Claim7.holds Tryd.pinned (.plain (OpenSpec.upto fnExactFarthestByKeysSpec)) fnExactFarthestByKeysUptoCard

/-- THE SECOND FORM's CARD OF 'laws.FnExactFirstKeyed'. -/
def fnExactFirstKeyedUptoCard : Claim7 := { stood := { row := fnExactFirstKeyedUptoRow, standIns := [], harness := (true, "8f5f712e94dcd33f15a799f48755bec1622963e6885ebd6d973447c06ef40bcc"), looks := false }, kinds := [], alts := [], laidByText := true, laidKinds := [.data, .pinned], laidTests := true, laidLooks := .later }
def FnExactFirstKeyedUptoCardSaid : Prop := Claim7.holds Tryd.pinned (.plain (OpenSpec.upto fnExactFirstKeyedSpec)) fnExactFirstKeyedUptoCard
end Rows
end Go.Proofs.YtbgkcbppkhakhaaDoor
