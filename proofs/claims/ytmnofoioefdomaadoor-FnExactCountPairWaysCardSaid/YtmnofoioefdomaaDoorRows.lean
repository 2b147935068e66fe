/-
  NARROWER THAN 'FOR EVERY INPUT', by the rows' own cells (each row's printed sentence says how): FnExactCountPairWays: laid · FnExactFewestPairMoves: laid · FnExactCountByPairs: laid · FnExactMostSaved: laid · FnExactSavedByPairs: laid · FnExactNearByPairs: laid · FnExactFarthestByPairs: laid · FnExactPairMovesToClear: laid · FnPairsNearOfAll: laid · FnPairsMove: laid.
  DERIVED. THE GIVEN ROWS OF THIS SEAT. 10 by the template 'for every input the law returns true; each argument reads behind the call as it read before'; 0 by the template 'total and deterministic' (their statements: YtmnofoioefdomaaDoorTotals.lean).
  GIVEN WITH THE SEED: the statements are not yours to turn. If you find one false, say at which input.
  Laid BY PROGRAM, IN A SANDBOX (cutbox-rows.mjs): the forced cells as the released guide's own fill.sh prints them over the translation dd3ec4dc9ab35f9d… (all of the seat's roots in one cut). By AI agents, Wed Nov 11 2026. No macro, syntax, notation, axiom, sorry.
-/
import Derived.Test.YtmnofoioefdomaaDoorChecked
import GoSem.PinnedTables
import GoSem.Claim
import GoSem.ClaimJoined
import GoSem.ClaimMapViews
import Derived.JoinedTies
import Derived.KernelRfl
namespace Go.Proofs.YtmnofoioefdomaaDoor
/- THE CELL 'sum', in the pinned program and in every row, IS THE sha256 OF THE DUMP (.gsa) THAT YtmnofoioefdomaaDoorProg.lean LOADS. Nothing in Lean hashes anything: it is a label: what it is worth is what the hold of that sum in a sandbox is worth. -/
noncomputable def Tryd.pinned : Pinned := { name := "ytmnofoioefdomaadoor", sum := "dd3ec4dc9ab35f9d0b9a0cb192fdcd8c6c01f32ea77eca201763a19107095282", checked := Tryd.checked }
namespace Rows
def none {H : Type} : Left H := { results := [], args := [] }

/- WHAT THE LISTED PACKAGE-LEVEL VARIABLES READ AS WHEN THE CALL BEGINS. Each datum BY PROGRAM (the guide's laid-datum.mjs) off the statement by which the dump's own 'gosem.cut.vars' lays the variable. In a bare row this is a premise. The card (YtmnofoioefdomaaDoorCards.lean) ties it to the program's text. -/
def laid_unicode_utf8_acceptRanges {H : Type} : DataW H := .agg [.agg [.lit (.int .u8 128), .lit (.int .u8 191)], .agg [.lit (.int .u8 160), .lit (.int .u8 191)], .agg [.lit (.int .u8 128), .lit (.int .u8 159)], .agg [.lit (.int .u8 144), .lit (.int .u8 191)], .agg [.lit (.int .u8 128), .lit (.int .u8 143)], .agg [.lit (.int .u8 0), .lit (.int .u8 0)], .agg [.lit (.int .u8 0), .lit (.int .u8 0)], .agg [.lit (.int .u8 0), .lit (.int .u8 0)], .agg [.lit (.int .u8 0), .lit (.int .u8 0)], .agg [.lit (.int .u8 0), .lit (.int .u8 0)], .agg [.lit (.int .u8 0), .lit (.int .u8 0)], .agg [.lit (.int .u8 0), .lit (.int .u8 0)], .agg [.lit (.int .u8 0), .lit (.int .u8 0)], .agg [.lit (.int .u8 0), .lit (.int .u8 0)], .agg [.lit (.int .u8 0), .lit (.int .u8 0)], .agg [.lit (.int .u8 0), .lit (.int .u8 0)]]
/-- One of Go's own tables, pinned by name: the form's constant. -/
def laid_unicode_utf8_first : DataW Unit := Go.Pinned.utf8First

/-- 'laws.FnExactCountPairWays': WHATEVER THE INPUT: true; the input reads as it did. -/
def fnExactCountPairWaysSpec : ChangeSpec := { name := "fnExactCountPairWays", fn := fun _ => fun
  | [d1, d2] => { results := [.lit (.bool true)], args := [d1, d2] }
  | _ => none }
def fnExactCountPairWaysRow : OpenClaim := { program := "ytmnofoioefdomaadoor", sum := "dd3ec4dc9ab35f9d0b9a0cb192fdcd8c6c01f32ea77eca201763a19107095282", func := "loop.example/g01314/laws.FnExactCountPairWays", spec := "fnExactCountPairWays", inPlace := ["internal/bytealg.IndexByteString", "internal/bytealg.IndexString"], named := ["unicode/utf8.first", "unicode/utf8.acceptRanges", "internal/bytealg.MaxLen"], apart := false, laid := [("unicode/utf8.acceptRanges", laid_unicode_utf8_acceptRanges), ("unicode/utf8.first", laid_unicode_utf8_first)] }
def FnExactCountPairWaysSaid : Prop := fnExactCountPairWaysRow.holds Tryd.pinned (OpenSpec.ofChange fnExactCountPairWaysSpec)

/-- ITS FALSE NEIGHBOUR: 'it returns false'. Refute it at one input. -/
def fnExactCountPairWaysWrong : ChangeSpec := { name := "fnExactCountPairWays", fn := fun _ => fun
  | [d1, d2] => { results := [.lit (.bool false)], args := [d1, d2] }
  | _ => none }
def FnExactCountPairWaysWrongFalsely : Prop := fnExactCountPairWaysRow.holds Tryd.pinned (OpenSpec.ofChange fnExactCountPairWaysWrong)

/-- 'laws.FnExactFewestPairMoves': WHATEVER THE INPUT: true; the input reads as it did. -/
def fnExactFewestPairMovesSpec : ChangeSpec := { name := "fnExactFewestPairMoves", fn := fun _ => fun
  | [d1, d2] => { results := [.lit (.bool true)], args := [d1, d2] }
  | _ => none }
def fnExactFewestPairMovesRow : OpenClaim := { program := "ytmnofoioefdomaadoor", sum := "dd3ec4dc9ab35f9d0b9a0cb192fdcd8c6c01f32ea77eca201763a19107095282", func := "loop.example/g01314/laws.FnExactFewestPairMoves", spec := "fnExactFewestPairMoves", inPlace := ["internal/bytealg.IndexByteString", "internal/bytealg.IndexString"], named := ["unicode/utf8.first", "unicode/utf8.acceptRanges", "internal/bytealg.MaxLen"], apart := false, laid := [("unicode/utf8.acceptRanges", laid_unicode_utf8_acceptRanges), ("unicode/utf8.first", laid_unicode_utf8_first)] }
def FnExactFewestPairMovesSaid : Prop := fnExactFewestPairMovesRow.holds Tryd.pinned (OpenSpec.ofChange fnExactFewestPairMovesSpec)

/-- ITS FALSE NEIGHBOUR: 'it returns false'. Refute it at one input. -/
def fnExactFewestPairMovesWrong : ChangeSpec := { name := "fnExactFewestPairMoves", fn := fun _ => fun
  | [d1, d2] => { results := [.lit (.bool false)], args := [d1, d2] }
  | _ => none }
def FnExactFewestPairMovesWrongFalsely : Prop := fnExactFewestPairMovesRow.holds Tryd.pinned (OpenSpec.ofChange fnExactFewestPairMovesWrong)

/-- 'laws.FnExactCountByPairs': WHATEVER THE INPUT: true; the input reads as it did. -/
def fnExactCountByPairsSpec : ChangeSpec := { name := "fnExactCountByPairs", fn := fun _ => fun
  | [d1, d2] => { results := [.lit (.bool true)], args := [d1, d2] }
  | _ => none }
def fnExactCountByPairsRow : OpenClaim := { program := "ytmnofoioefdomaadoor", sum := "dd3ec4dc9ab35f9d0b9a0cb192fdcd8c6c01f32ea77eca201763a19107095282", func := "loop.example/g01314/laws.FnExactCountByPairs", spec := "fnExactCountByPairs", inPlace := ["internal/bytealg.IndexByteString", "internal/bytealg.IndexString"], named := ["unicode/utf8.first", "unicode/utf8.acceptRanges", "internal/bytealg.MaxLen"], apart := false, laid := [("unicode/utf8.acceptRanges", laid_unicode_utf8_acceptRanges), ("unicode/utf8.first", laid_unicode_utf8_first)] }
def FnExactCountByPairsSaid : Prop := fnExactCountByPairsRow.holds Tryd.pinned (OpenSpec.ofChange fnExactCountByPairsSpec)

/-- ITS FALSE NEIGHBOUR: 'it returns false'. Refute it at one input. -/
def fnExactCountByPairsWrong : ChangeSpec := { name := "fnExactCountByPairs", fn := fun _ => fun
  | [d1, d2] => { results := [.lit (.bool false)], args := [d1, d2] }
  | _ => none }
def FnExactCountByPairsWrongFalsely : Prop := fnExactCountByPairsRow.holds Tryd.pinned (OpenSpec.ofChange fnExactCountByPairsWrong)

/-- 'laws.FnExactMostSaved': WHATEVER THE INPUT: true; the input reads as it did. -/
def fnExactMostSavedSpec : ChangeSpec := { name := "fnExactMostSaved", fn := fun _ => fun
  | [d] => { results := [.lit (.bool true)], args := [d] }
  | _ => none }
def fnExactMostSavedRow : OpenClaim := { program := "ytmnofoioefdomaadoor", sum := "dd3ec4dc9ab35f9d0b9a0cb192fdcd8c6c01f32ea77eca201763a19107095282", func := "loop.example/g01314/laws.FnExactMostSaved", spec := "fnExactMostSaved", inPlace := ["internal/bytealg.IndexByteString", "internal/bytealg.IndexString"], named := ["unicode/utf8.first", "unicode/utf8.acceptRanges", "internal/bytealg.MaxLen"], apart := false, laid := [("unicode/utf8.acceptRanges", laid_unicode_utf8_acceptRanges), ("unicode/utf8.first", laid_unicode_utf8_first)] }
def FnExactMostSavedSaid : Prop := fnExactMostSavedRow.holds Tryd.pinned (OpenSpec.ofChange fnExactMostSavedSpec)

/-- ITS FALSE NEIGHBOUR: 'it returns false'. Refute it at one input. -/
def fnExactMostSavedWrong : ChangeSpec := { name := "fnExactMostSaved", fn := fun _ => fun
  | [d] => { results := [.lit (.bool false)], args := [d] }
  | _ => none }
def FnExactMostSavedWrongFalsely : Prop := fnExactMostSavedRow.holds Tryd.pinned (OpenSpec.ofChange fnExactMostSavedWrong)

/-- 'laws.FnExactSavedByPairs': WHATEVER THE INPUT: true; the input reads as it did. -/
def fnExactSavedByPairsSpec : ChangeSpec := { name := "fnExactSavedByPairs", fn := fun _ => fun
  | [d1, d2] => { results := [.lit (.bool true)], args := [d1, d2] }
  | _ => none }
def fnExactSavedByPairsRow : OpenClaim := { program := "ytmnofoioefdomaadoor", sum := "dd3ec4dc9ab35f9d0b9a0cb192fdcd8c6c01f32ea77eca201763a19107095282", func := "loop.example/g01314/laws.FnExactSavedByPairs", spec := "fnExactSavedByPairs", inPlace := ["internal/bytealg.IndexByteString", "internal/bytealg.IndexString"], named := ["unicode/utf8.first", "unicode/utf8.acceptRanges", "internal/bytealg.MaxLen"], apart := false, laid := [("unicode/utf8.acceptRanges", laid_unicode_utf8_acceptRanges), ("unicode/utf8.first", laid_unicode_utf8_first)] }
def FnExactSavedByPairsSaid : Prop := fnExactSavedByPairsRow.holds Tryd.pinned (OpenSpec.ofChange fnExactSavedByPairsSpec)

/-- ITS FALSE NEIGHBOUR: 'it returns false'. Refute it at one input. -/
def fnExactSavedByPairsWrong : ChangeSpec := { name := "fnExactSavedByPairs", fn := fun _ => fun
  | [d1, d2] => { results := [.lit (.bool false)], args := [d1, d2] }
  | _ => none }
def FnExactSavedByPairsWrongFalsely : Prop := fnExactSavedByPairsRow.holds Tryd.pinned (OpenSpec.ofChange fnExactSavedByPairsWrong)

/-- 'laws.FnExactNearByPairs': WHATEVER THE INPUT: true; the input reads as it did. -/
def fnExactNearByPairsSpec : ChangeSpec := { name := "fnExactNearByPairs", fn := fun _ => fun
  | [d1, d2] => { results := [.lit (.bool true)], args := [d1, d2] }
  | _ => none }
def fnExactNearByPairsRow : OpenClaim := { program := "ytmnofoioefdomaadoor", sum := "dd3ec4dc9ab35f9d0b9a0cb192fdcd8c6c01f32ea77eca201763a19107095282", func := "loop.example/g01314/laws.FnExactNearByPairs", spec := "fnExactNearByPairs", inPlace := ["internal/bytealg.IndexByteString", "internal/bytealg.IndexString"], unfollowed := true, recurses := true, named := ["unicode/utf8.first", "unicode/utf8.acceptRanges", "internal/bytealg.MaxLen"], apart := false, laid := [("unicode/utf8.acceptRanges", laid_unicode_utf8_acceptRanges), ("unicode/utf8.first", laid_unicode_utf8_first)] }
def FnExactNearByPairsSaid : Prop := fnExactNearByPairsRow.holds Tryd.pinned (OpenSpec.ofChange fnExactNearByPairsSpec)

/-- ITS FALSE NEIGHBOUR: 'it returns false'. Refute it at one input. -/
def fnExactNearByPairsWrong : ChangeSpec := { name := "fnExactNearByPairs", fn := fun _ => fun
  | [d1, d2] => { results := [.lit (.bool false)], args := [d1, d2] }
  | _ => none }
def FnExactNearByPairsWrongFalsely : Prop := fnExactNearByPairsRow.holds Tryd.pinned (OpenSpec.ofChange fnExactNearByPairsWrong)

/-- 'laws.FnExactFarthestByPairs': WHATEVER THE INPUT: true; the input reads as it did. -/
def fnExactFarthestByPairsSpec : ChangeSpec := { name := "fnExactFarthestByPairs", fn := fun _ => fun
  | [d] => { results := [.lit (.bool true)], args := [d] }
  | _ => none }
def fnExactFarthestByPairsRow : OpenClaim := { program := "ytmnofoioefdomaadoor", sum := "dd3ec4dc9ab35f9d0b9a0cb192fdcd8c6c01f32ea77eca201763a19107095282", func := "loop.example/g01314/laws.FnExactFarthestByPairs", spec := "fnExactFarthestByPairs", inPlace := ["internal/bytealg.IndexByteString", "internal/bytealg.IndexString"], unfollowed := true, recurses := true, named := ["unicode/utf8.first", "unicode/utf8.acceptRanges", "internal/bytealg.MaxLen"], apart := false, laid := [("unicode/utf8.acceptRanges", laid_unicode_utf8_acceptRanges), ("unicode/utf8.first", laid_unicode_utf8_first)] }
def FnExactFarthestByPairsSaid : Prop := fnExactFarthestByPairsRow.holds Tryd.pinned (OpenSpec.ofChange fnExactFarthestByPairsSpec)

/-- ITS FALSE NEIGHBOUR: 'it returns false'. Refute it at one input. -/
def fnExactFarthestByPairsWrong : ChangeSpec := { name := "fnExactFarthestByPairs", fn := fun _ => fun
  | [d] => { results := [.lit (.bool false)], args := [d] }
  | _ => none }
def FnExactFarthestByPairsWrongFalsely : Prop := fnExactFarthestByPairsRow.holds Tryd.pinned (OpenSpec.ofChange fnExactFarthestByPairsWrong)

/-- 'laws.FnExactPairMovesToClear': WHATEVER THE INPUT: true; the input reads as it did. -/
def fnExactPairMovesToClearSpec : ChangeSpec := { name := "fnExactPairMovesToClear", fn := fun _ => fun
  | [d] => { results := [.lit (.bool true)], args := [d] }
  | _ => none }
def fnExactPairMovesToClearRow : OpenClaim := { program := "ytmnofoioefdomaadoor", sum := "dd3ec4dc9ab35f9d0b9a0cb192fdcd8c6c01f32ea77eca201763a19107095282", func := "loop.example/g01314/laws.FnExactPairMovesToClear", spec := "fnExactPairMovesToClear", inPlace := ["internal/bytealg.IndexByteString", "internal/bytealg.IndexString", "internal/abi.NoEscape", "internal/bytealg.MakeNoZero"], named := ["unicode/utf8.first", "unicode/utf8.acceptRanges", "internal/bytealg.MaxLen"], apart := false, laid := [("unicode/utf8.acceptRanges", laid_unicode_utf8_acceptRanges), ("unicode/utf8.first", laid_unicode_utf8_first)] }
def FnExactPairMovesToClearSaid : Prop := fnExactPairMovesToClearRow.holds Tryd.pinned (OpenSpec.ofChange fnExactPairMovesToClearSpec)

/-- ITS FALSE NEIGHBOUR: 'it returns false'. Refute it at one input. -/
def fnExactPairMovesToClearWrong : ChangeSpec := { name := "fnExactPairMovesToClear", fn := fun _ => fun
  | [d] => { results := [.lit (.bool false)], args := [d] }
  | _ => none }
def FnExactPairMovesToClearWrongFalsely : Prop := fnExactPairMovesToClearRow.holds Tryd.pinned (OpenSpec.ofChange fnExactPairMovesToClearWrong)

/-- 'laws.FnPairsNearOfAll': WHATEVER THE INPUT: true; the input reads as it did. -/
def fnPairsNearOfAllSpec : ChangeSpec := { name := "fnPairsNearOfAll", fn := fun _ => fun
  | [d1, d2, d3, d4, d5] => { results := [.lit (.bool true)], args := [d1, d2, d3, d4, d5] }
  | _ => none }
def fnPairsNearOfAllRow : OpenClaim := { program := "ytmnofoioefdomaadoor", sum := "dd3ec4dc9ab35f9d0b9a0cb192fdcd8c6c01f32ea77eca201763a19107095282", func := "loop.example/g01314/laws.FnPairsNearOfAll", spec := "fnPairsNearOfAll", inPlace := ["internal/bytealg.IndexByteString", "internal/bytealg.IndexString", "internal/abi.NoEscape", "internal/bytealg.MakeNoZero"], unfollowed := true, recurses := true, named := ["unicode/utf8.first", "unicode/utf8.acceptRanges", "internal/bytealg.MaxLen"], apart := false, laid := [("unicode/utf8.acceptRanges", laid_unicode_utf8_acceptRanges), ("unicode/utf8.first", laid_unicode_utf8_first)] }
def FnPairsNearOfAllSaid : Prop := fnPairsNearOfAllRow.holds Tryd.pinned (OpenSpec.ofChange fnPairsNearOfAllSpec)

/-- ITS FALSE NEIGHBOUR: 'it returns false'. Refute it at one input. -/
def fnPairsNearOfAllWrong : ChangeSpec := { name := "fnPairsNearOfAll", fn := fun _ => fun
  | [d1, d2, d3, d4, d5] => { results := [.lit (.bool false)], args := [d1, d2, d3, d4, d5] }
  | _ => none }
def FnPairsNearOfAllWrongFalsely : Prop := fnPairsNearOfAllRow.holds Tryd.pinned (OpenSpec.ofChange fnPairsNearOfAllWrong)

/-- 'laws.FnPairsMove': WHATEVER THE INPUT: true; the input reads as it did. -/
def fnPairsMoveSpec : ChangeSpec := { name := "fnPairsMove", fn := fun _ => fun
  | [d1, d2] => { results := [.lit (.bool true)], args := [d1, d2] }
  | _ => none }
def fnPairsMoveRow : OpenClaim := { program := "ytmnofoioefdomaadoor", sum := "dd3ec4dc9ab35f9d0b9a0cb192fdcd8c6c01f32ea77eca201763a19107095282", func := "loop.example/g01314/laws.FnPairsMove", spec := "fnPairsMove", inPlace := ["internal/bytealg.IndexByteString", "internal/bytealg.IndexString"], named := ["unicode/utf8.first", "unicode/utf8.acceptRanges", "internal/bytealg.MaxLen"], apart := false, laid := [("unicode/utf8.acceptRanges", laid_unicode_utf8_acceptRanges), ("unicode/utf8.first", laid_unicode_utf8_first)] }
def FnPairsMoveSaid : Prop := fnPairsMoveRow.holds Tryd.pinned (OpenSpec.ofChange fnPairsMoveSpec)

/-- ITS FALSE NEIGHBOUR: 'it returns false'. Refute it at one input. -/
def fnPairsMoveWrong : ChangeSpec := { name := "fnPairsMove", fn := fun _ => fun
  | [d1, d2] => { results := [.lit (.bool false)], args := [d1, d2] }
  | _ => none }
def FnPairsMoveWrongFalsely : Prop := fnPairsMoveRow.holds Tryd.pinned (OpenSpec.ofChange fnPairsMoveWrong)

/- THE SECOND FORM. 'bulk': how many values and letters a reading holds, each counted each time it is reached (what is shared counts as often as it is met; a slice's spare places count too). A statement '..UptoSaid' is the law's where the arguments, and the package variables that the reading takes, are together of bulk at most 1048576: NARROWER than '..Said'. Prove '..Said' where nothing that the law and all that it calls make is longer than what came in: it says more and counts as full. Else prove '..UptoSaid'. A law counts once. -/
mutual
def uptoBulk {H : Type} : DataW H → Nat
  | .lit (.string bytes) => bytes.length + 1
  | .lit _ => 1
  | .nil => 1
  | .ptr d => uptoBulk d + 1
  | .slice elems spare => uptoBulkAll elems + uptoBulkAll spare + 1
  | .agg parts => uptoBulkAll parts + 1
  | .iface _ d => uptoBulk d + 1
  | .map entries => uptoBulkEntries entries + 1
  | .held _ => 1
def uptoBulkAll {H : Type} : List (DataW H) → Nat
  | [] => 0
  | d :: r => uptoBulk d + uptoBulkAll r
def uptoBulkEntries {H : Type} : List (Lit × DataW H) → Nat
  | [] => 0
  | x :: r => uptoBulkEntry x + uptoBulkEntries r
def uptoBulkEntry {H : Type} : Lit × DataW H → Nat
  | (.string bytes, d) => bytes.length + uptoBulk d + 1
  | (_, d) => uptoBulk d + 1
 end
def uptoSmall : (H : Type) → List (DataW H) → Bool := fun _ ds => decide (uptoBulkAll ds ≤ 1048576)
def OpenSpec.upto (s : _root_.Go.ChangeSpec) : _root_.Go.OpenSpec := { _root_.Go.OpenSpec.ofChange s with cond := some uptoSmall }

/-- 'laws.FnExactCountPairWays', WHERE WHAT IT READS IS OF BULK AT MOST 1048576: true; the input reads as it did. -/
def fnExactCountPairWaysUptoRow : OpenClaim := { program := "ytmnofoioefdomaadoor", sum := "dd3ec4dc9ab35f9d0b9a0cb192fdcd8c6c01f32ea77eca201763a19107095282", func := "loop.example/g01314/laws.FnExactCountPairWays", spec := "fnExactCountPairWays", inPlace := ["internal/bytealg.IndexByteString", "internal/bytealg.IndexString"], named := ["unicode/utf8.first", "unicode/utf8.acceptRanges", "internal/bytealg.MaxLen"], apart := false, laid := [("unicode/utf8.acceptRanges", laid_unicode_utf8_acceptRanges), ("unicode/utf8.first", laid_unicode_utf8_first)], narrowed := true }
def FnExactCountPairWaysUptoSaid : Prop := fnExactCountPairWaysUptoRow.holds Tryd.pinned (OpenSpec.upto fnExactCountPairWaysSpec)

/-- 'laws.FnExactFewestPairMoves', WHERE WHAT IT READS IS OF BULK AT MOST 1048576: true; the input reads as it did. -/
def fnExactFewestPairMovesUptoRow : OpenClaim := { program := "ytmnofoioefdomaadoor", sum := "dd3ec4dc9ab35f9d0b9a0cb192fdcd8c6c01f32ea77eca201763a19107095282", func := "loop.example/g01314/laws.FnExactFewestPairMoves", spec := "fnExactFewestPairMoves", inPlace := ["internal/bytealg.IndexByteString", "internal/bytealg.IndexString"], named := ["unicode/utf8.first", "unicode/utf8.acceptRanges", "internal/bytealg.MaxLen"], apart := false, laid := [("unicode/utf8.acceptRanges", laid_unicode_utf8_acceptRanges), ("unicode/utf8.first", laid_unicode_utf8_first)], narrowed := true }
def FnExactFewestPairMovesUptoSaid : Prop := fnExactFewestPairMovesUptoRow.holds Tryd.pinned (OpenSpec.upto fnExactFewestPairMovesSpec)

/-- 'laws.FnExactCountByPairs', WHERE WHAT IT READS IS OF BULK AT MOST 1048576: true; the input reads as it did. -/
def fnExactCountByPairsUptoRow : OpenClaim := { program := "ytmnofoioefdomaadoor", sum := "dd3ec4dc9ab35f9d0b9a0cb192fdcd8c6c01f32ea77eca201763a19107095282", func := "loop.example/g01314/laws.FnExactCountByPairs", spec := "fnExactCountByPairs", inPlace := ["internal/bytealg.IndexByteString", "internal/bytealg.IndexString"], named := ["unicode/utf8.first", "unicode/utf8.acceptRanges", "internal/bytealg.MaxLen"], apart := false, laid := [("unicode/utf8.acceptRanges", laid_unicode_utf8_acceptRanges), ("unicode/utf8.first", laid_unicode_utf8_first)], narrowed := true }
def FnExactCountByPairsUptoSaid : Prop := fnExactCountByPairsUptoRow.holds Tryd.pinned (OpenSpec.upto fnExactCountByPairsSpec)

/-- 'laws.FnExactMostSaved', WHERE WHAT IT READS IS OF BULK AT MOST 1048576: true; the input reads as it did. -/
def fnExactMostSavedUptoRow : OpenClaim := { program := "ytmnofoioefdomaadoor", sum := "dd3ec4dc9ab35f9d0b9a0cb192fdcd8c6c01f32ea77eca201763a19107095282", func := "loop.example/g01314/laws.FnExactMostSaved", spec := "fnExactMostSaved", inPlace := ["internal/bytealg.IndexByteString", "internal/bytealg.IndexString"], named := ["unicode/utf8.first", "unicode/utf8.acceptRanges", "internal/bytealg.MaxLen"], apart := false, laid := [("unicode/utf8.acceptRanges", laid_unicode_utf8_acceptRanges), ("unicode/utf8.first", laid_unicode_utf8_first)], narrowed := true }
def FnExactMostSavedUptoSaid : Prop := fnExactMostSavedUptoRow.holds Tryd.pinned (OpenSpec.upto fnExactMostSavedSpec)

/-- 'laws.FnExactSavedByPairs', WHERE WHAT IT READS IS OF BULK AT MOST 1048576: true; the input reads as it did. -/
def fnExactSavedByPairsUptoRow : OpenClaim := { program := "ytmnofoioefdomaadoor", sum := "dd3ec4dc9ab35f9d0b9a0cb192fdcd8c6c01f32ea77eca201763a19107095282", func := "loop.example/g01314/laws.FnExactSavedByPairs", spec := "fnExactSavedByPairs", inPlace := ["internal/bytealg.IndexByteString", "internal/bytealg.IndexString"], named := ["unicode/utf8.first", "unicode/utf8.acceptRanges", "internal/bytealg.MaxLen"], apart := false, laid := [("unicode/utf8.acceptRanges", laid_unicode_utf8_acceptRanges), ("unicode/utf8.first", laid_unicode_utf8_first)], narrowed := true }
def FnExactSavedByPairsUptoSaid : Prop := fnExactSavedByPairsUptoRow.holds Tryd.pinned (OpenSpec.upto fnExactSavedByPairsSpec)

/-- 'laws.FnExactNearByPairs', WHERE WHAT IT READS IS OF BULK AT MOST 1048576: true; the input reads as it did. -/
def fnExactNearByPairsUptoRow : OpenClaim := { program := "ytmnofoioefdomaadoor", sum := "dd3ec4dc9ab35f9d0b9a0cb192fdcd8c6c01f32ea77eca201763a19107095282", func := "loop.example/g01314/laws.FnExactNearByPairs", spec := "fnExactNearByPairs", inPlace := ["internal/bytealg.IndexByteString", "internal/bytealg.IndexString"], unfollowed := true, recurses := true, named := ["unicode/utf8.first", "unicode/utf8.acceptRanges", "internal/bytealg.MaxLen"], apart := false, laid := [("unicode/utf8.acceptRanges", laid_unicode_utf8_acceptRanges), ("unicode/utf8.first", laid_unicode_utf8_first)], narrowed := true }
def FnExactNearByPairsUptoSaid : Prop := fnExactNearByPairsUptoRow.holds Tryd.pinned (OpenSpec.upto fnExactNearByPairsSpec)

/-- 'laws.FnExactFarthestByPairs', WHERE WHAT IT READS IS OF BULK AT MOST 1048576: true; the input reads as it did. -/
def fnExactFarthestByPairsUptoRow : OpenClaim := { program := "ytmnofoioefdomaadoor", sum := "dd3ec4dc9ab35f9d0b9a0cb192fdcd8c6c01f32ea77eca201763a19107095282", func := "loop.example/g01314/laws.FnExactFarthestByPairs", spec := "fnExactFarthestByPairs", inPlace := ["internal/bytealg.IndexByteString", "internal/bytealg.IndexString"], unfollowed := true, recurses := true, named := ["unicode/utf8.first", "unicode/utf8.acceptRanges", "internal/bytealg.MaxLen"], apart := false, laid := [("unicode/utf8.acceptRanges", laid_unicode_utf8_acceptRanges), ("unicode/utf8.first", laid_unicode_utf8_first)], narrowed := true }
def FnExactFarthestByPairsUptoSaid : Prop := fnExactFarthestByPairsUptoRow.holds Tryd.pinned (OpenSpec.upto fnExactFarthestByPairsSpec)

/-- 'laws.FnExactPairMovesToClear', WHERE WHAT IT READS IS OF BULK AT MOST 1048576: true; the input reads as it did. -/
def fnExactPairMovesToClearUptoRow : OpenClaim := { program := "ytmnofoioefdomaadoor", sum := "dd3ec4dc9ab35f9d0b9a0cb192fdcd8c6c01f32ea77eca201763a19107095282", func := "loop.example/g01314/laws.FnExactPairMovesToClear", spec := "fnExactPairMovesToClear", inPlace := ["internal/bytealg.IndexByteString", "internal/bytealg.IndexString", "internal/abi.NoEscape", "internal/bytealg.MakeNoZero"], named := ["unicode/utf8.first", "unicode/utf8.acceptRanges", "internal/bytealg.MaxLen"], apart := false, laid := [("unicode/utf8.acceptRanges", laid_unicode_utf8_acceptRanges), ("unicode/utf8.first", laid_unicode_utf8_first)], narrowed := true }
def FnExactPairMovesToClearUptoSaid : Prop := fnExactPairMovesToClearUptoRow.holds Tryd.pinned (OpenSpec.upto fnExactPairMovesToClearSpec)

/-- 'laws.FnPairsNearOfAll', WHERE WHAT IT READS IS OF BULK AT MOST 1048576: true; the input reads as it did. -/
def fnPairsNearOfAllUptoRow : OpenClaim := { program := "ytmnofoioefdomaadoor", sum := "dd3ec4dc9ab35f9d0b9a0cb192fdcd8c6c01f32ea77eca201763a19107095282", func := "loop.example/g01314/laws.FnPairsNearOfAll", spec := "fnPairsNearOfAll", inPlace := ["internal/bytealg.IndexByteString", "internal/bytealg.IndexString", "internal/abi.NoEscape", "internal/bytealg.MakeNoZero"], unfollowed := true, recurses := true, named := ["unicode/utf8.first", "unicode/utf8.acceptRanges", "internal/bytealg.MaxLen"], apart := false, laid := [("unicode/utf8.acceptRanges", laid_unicode_utf8_acceptRanges), ("unicode/utf8.first", laid_unicode_utf8_first)], narrowed := true }
def FnPairsNearOfAllUptoSaid : Prop := fnPairsNearOfAllUptoRow.holds Tryd.pinned (OpenSpec.upto fnPairsNearOfAllSpec)

/-- 'laws.FnPairsMove', WHERE WHAT IT READS IS OF BULK AT MOST 1048576: true; the input reads as it did. -/
def fnPairsMoveUptoRow : OpenClaim := { program := "ytmnofoioefdomaadoor", sum := "dd3ec4dc9ab35f9d0b9a0cb192fdcd8c6c01f32ea77eca201763a19107095282", func := "loop.example/g01314/laws.FnPairsMove", spec := "fnPairsMove", inPlace := ["internal/bytealg.IndexByteString", "internal/bytealg.IndexString"], named := ["unicode/utf8.first", "unicode/utf8.acceptRanges", "internal/bytealg.MaxLen"], apart := false, laid := [("unicode/utf8.acceptRanges", laid_unicode_utf8_acceptRanges), ("unicode/utf8.first", laid_unicode_utf8_first)], narrowed := true }
def FnPairsMoveUptoSaid : Prop := fnPairsMoveUptoRow.holds Tryd.pinned (OpenSpec.upto fnPairsMoveSpec)

end Rows
end Go.Proofs.YtmnofoioefdomaaDoor
