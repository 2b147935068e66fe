/-
  NARROWER THAN 'FOR EVERY INPUT', by the rows' own cells (each row's printed sentence says how): FnExactFitsKey: laid · FnExactMoveKeyed: laid · FnExactKeyedMoves: laid · FnExactFewestKeyed: laid · FnExactCountReachedBy: laid · FnExactFarthestByKeys: laid · FnExactFirstKeyed: laid.
  DERIVED. THE GIVEN ROWS OF THIS SEAT. 7 by the template 'for every input the law returns true; each argument reads behind the call as it read before'; 0 by the template 'total and deterministic' (their statements: YtbgkcbppkhakhaaDoorTotals.lean).
  GIVEN WITH THE SEED: the statements are not yours to turn. If you find one false, say at which input.
  Laid BY PROGRAM, IN A SANDBOX (cutbox-rows.mjs): the forced cells as the released guide's own fill.sh prints them over the translation 4ffdc48bddabcacc… (all of the seat's roots in one cut). By AI agents, Wed Nov 11 2026. No macro, syntax, notation, axiom, sorry.
-/
import Derived.Test.YtbgkcbppkhakhaaDoorChecked
import GoSem.PinnedTables
import GoSem.Claim
import GoSem.ClaimJoined
import GoSem.ClaimMapViews
import Derived.JoinedTies
import Derived.KernelRfl
namespace Go.Proofs.YtbgkcbppkhakhaaDoor
/- THE CELL 'sum', in the pinned program and in every row, IS THE sha256 OF THE DUMP (.gsa) THAT YtbgkcbppkhakhaaDoorProg.lean LOADS. Nothing in Lean hashes anything: it is a label: what it is worth is what the hold of that sum in a sandbox is worth. -/
noncomputable def Tryd.pinned : Pinned := { name := "ytbgkcbppkhakhaadoor", sum := "4ffdc48bddabcacc6e21c61d854b986f9ea135f741035b98a289f568d721e6d3", checked := Tryd.checked }
namespace Rows
def none {H : Type} : Left H := { results := [], args := [] }

/- WHAT THE LISTED PACKAGE-LEVEL VARIABLES READ AS WHEN THE CALL BEGINS. Each datum BY PROGRAM (the guide's laid-datum.mjs) off the statement by which the dump's own 'gosem.cut.vars' lays the variable. In a bare row this is a premise. The card (YtbgkcbppkhakhaaDoorCards.lean) ties it to the program's text. -/
def laid_unicode_utf8_acceptRanges {H : Type} : DataW H := .agg [.agg [.lit (.int .u8 128), .lit (.int .u8 191)], .agg [.lit (.int .u8 160), .lit (.int .u8 191)], .agg [.lit (.int .u8 128), .lit (.int .u8 159)], .agg [.lit (.int .u8 144), .lit (.int .u8 191)], .agg [.lit (.int .u8 128), .lit (.int .u8 143)], .agg [.lit (.int .u8 0), .lit (.int .u8 0)], .agg [.lit (.int .u8 0), .lit (.int .u8 0)], .agg [.lit (.int .u8 0), .lit (.int .u8 0)], .agg [.lit (.int .u8 0), .lit (.int .u8 0)], .agg [.lit (.int .u8 0), .lit (.int .u8 0)], .agg [.lit (.int .u8 0), .lit (.int .u8 0)], .agg [.lit (.int .u8 0), .lit (.int .u8 0)], .agg [.lit (.int .u8 0), .lit (.int .u8 0)], .agg [.lit (.int .u8 0), .lit (.int .u8 0)], .agg [.lit (.int .u8 0), .lit (.int .u8 0)], .agg [.lit (.int .u8 0), .lit (.int .u8 0)]]
/-- One of Go's own tables, pinned by name: the form's constant. -/
def laid_unicode_utf8_first : DataW Unit := Go.Pinned.utf8First

/-- 'laws.FnExactFitsKey': WHATEVER THE INPUT: true; the input reads as it did. -/
def fnExactFitsKeySpec : ChangeSpec := { name := "fnExactFitsKey", fn := fun _ => fun
  | [d1, d2, d3] => { results := [.lit (.bool true)], args := [d1, d2, d3] }
  | _ => none }
def fnExactFitsKeyRow : OpenClaim := { program := "ytbgkcbppkhakhaadoor", sum := "4ffdc48bddabcacc6e21c61d854b986f9ea135f741035b98a289f568d721e6d3", func := "loop.example/g01314/laws.FnExactFitsKey", spec := "fnExactFitsKey", inPlace := ["internal/bytealg.IndexByteString", "internal/bytealg.IndexString"], unfollowed := true, recurses := true, named := ["unicode/utf8.first", "unicode/utf8.acceptRanges", "internal/bytealg.MaxLen"], apart := false, laid := [("unicode/utf8.acceptRanges", laid_unicode_utf8_acceptRanges), ("unicode/utf8.first", laid_unicode_utf8_first)] }
def FnExactFitsKeySaid : Prop := fnExactFitsKeyRow.holds Tryd.pinned (OpenSpec.ofChange fnExactFitsKeySpec)

/-- ITS FALSE NEIGHBOUR: 'it returns false'. Refute it at one input. -/
def fnExactFitsKeyWrong : ChangeSpec := { name := "fnExactFitsKey", fn := fun _ => fun
  | [d1, d2, d3] => { results := [.lit (.bool false)], args := [d1, d2, d3] }
  | _ => none }
def FnExactFitsKeyWrongFalsely : Prop := fnExactFitsKeyRow.holds Tryd.pinned (OpenSpec.ofChange fnExactFitsKeyWrong)

/-- 'laws.FnExactMoveKeyed': WHATEVER THE INPUT: true; the input reads as it did. -/
def fnExactMoveKeyedSpec : ChangeSpec := { name := "fnExactMoveKeyed", fn := fun _ => fun
  | [d1, d2, d3] => { results := [.lit (.bool true)], args := [d1, d2, d3] }
  | _ => none }
def fnExactMoveKeyedRow : OpenClaim := { program := "ytbgkcbppkhakhaadoor", sum := "4ffdc48bddabcacc6e21c61d854b986f9ea135f741035b98a289f568d721e6d3", func := "loop.example/g01314/laws.FnExactMoveKeyed", spec := "fnExactMoveKeyed", inPlace := ["internal/bytealg.IndexByteString", "internal/bytealg.IndexString"], unfollowed := true, recurses := true, named := ["unicode/utf8.first", "unicode/utf8.acceptRanges", "internal/bytealg.MaxLen"], apart := false, laid := [("unicode/utf8.acceptRanges", laid_unicode_utf8_acceptRanges), ("unicode/utf8.first", laid_unicode_utf8_first)] }
def FnExactMoveKeyedSaid : Prop := fnExactMoveKeyedRow.holds Tryd.pinned (OpenSpec.ofChange fnExactMoveKeyedSpec)

/-- ITS FALSE NEIGHBOUR: 'it returns false'. Refute it at one input. -/
def fnExactMoveKeyedWrong : ChangeSpec := { name := "fnExactMoveKeyed", fn := fun _ => fun
  | [d1, d2, d3] => { results := [.lit (.bool false)], args := [d1, d2, d3] }
  | _ => none }
def FnExactMoveKeyedWrongFalsely : Prop := fnExactMoveKeyedRow.holds Tryd.pinned (OpenSpec.ofChange fnExactMoveKeyedWrong)

/-- 'laws.FnExactKeyedMoves': WHATEVER THE INPUT: true; the input reads as it did. -/
def fnExactKeyedMovesSpec : ChangeSpec := { name := "fnExactKeyedMoves", fn := fun _ => fun
  | [d1, d2] => { results := [.lit (.bool true)], args := [d1, d2] }
  | _ => none }
def fnExactKeyedMovesRow : OpenClaim := { program := "ytbgkcbppkhakhaadoor", sum := "4ffdc48bddabcacc6e21c61d854b986f9ea135f741035b98a289f568d721e6d3", func := "loop.example/g01314/laws.FnExactKeyedMoves", spec := "fnExactKeyedMoves", inPlace := ["internal/bytealg.IndexByteString", "internal/bytealg.IndexString"], unfollowed := true, recurses := true, named := ["unicode/utf8.first", "unicode/utf8.acceptRanges", "internal/bytealg.MaxLen"], apart := false, laid := [("unicode/utf8.acceptRanges", laid_unicode_utf8_acceptRanges), ("unicode/utf8.first", laid_unicode_utf8_first)] }
def FnExactKeyedMovesSaid : Prop := fnExactKeyedMovesRow.holds Tryd.pinned (OpenSpec.ofChange fnExactKeyedMovesSpec)

/-- ITS FALSE NEIGHBOUR: 'it returns false'. Refute it at one input. -/
def fnExactKeyedMovesWrong : ChangeSpec := { name := "fnExactKeyedMoves", fn := fun _ => fun
  | [d1, d2] => { results := [.lit (.bool false)], args := [d1, d2] }
  | _ => none }
def FnExactKeyedMovesWrongFalsely : Prop := fnExactKeyedMovesRow.holds Tryd.pinned (OpenSpec.ofChange fnExactKeyedMovesWrong)

/-- 'laws.FnExactFewestKeyed': WHATEVER THE INPUT: true; the input reads as it did. -/
def fnExactFewestKeyedSpec : ChangeSpec := { name := "fnExactFewestKeyed", fn := fun _ => fun
  | [d1, d2, d3] => { results := [.lit (.bool true)], args := [d1, d2, d3] }
  | _ => none }
def fnExactFewestKeyedRow : OpenClaim := { program := "ytbgkcbppkhakhaadoor", sum := "4ffdc48bddabcacc6e21c61d854b986f9ea135f741035b98a289f568d721e6d3", func := "loop.example/g01314/laws.FnExactFewestKeyed", spec := "fnExactFewestKeyed", inPlace := ["internal/bytealg.IndexByteString", "internal/bytealg.IndexString"], unfollowed := true, recurses := true, named := ["unicode/utf8.first", "unicode/utf8.acceptRanges", "internal/bytealg.MaxLen"], apart := false, laid := [("unicode/utf8.acceptRanges", laid_unicode_utf8_acceptRanges), ("unicode/utf8.first", laid_unicode_utf8_first)] }
def FnExactFewestKeyedSaid : Prop := fnExactFewestKeyedRow.holds Tryd.pinned (OpenSpec.ofChange fnExactFewestKeyedSpec)

/-- ITS FALSE NEIGHBOUR: 'it returns false'. Refute it at one input. -/
def fnExactFewestKeyedWrong : ChangeSpec := { name := "fnExactFewestKeyed", fn := fun _ => fun
  | [d1, d2, d3] => { results := [.lit (.bool false)], args := [d1, d2, d3] }
  | _ => none }
def FnExactFewestKeyedWrongFalsely : Prop := fnExactFewestKeyedRow.holds Tryd.pinned (OpenSpec.ofChange fnExactFewestKeyedWrong)

/-- 'laws.FnExactCountReachedBy': WHATEVER THE INPUT: true; the input reads as it did. -/
def fnExactCountReachedBySpec : ChangeSpec := { name := "fnExactCountReachedBy", fn := fun _ => fun
  | [d1, d2] => { results := [.lit (.bool true)], args := [d1, d2] }
  | _ => none }
def fnExactCountReachedByRow : OpenClaim := { program := "ytbgkcbppkhakhaadoor", sum := "4ffdc48bddabcacc6e21c61d854b986f9ea135f741035b98a289f568d721e6d3", func := "loop.example/g01314/laws.FnExactCountReachedBy", spec := "fnExactCountReachedBy", inPlace := ["internal/bytealg.IndexByteString", "internal/bytealg.IndexString"], unfollowed := true, recurses := true, named := ["unicode/utf8.first", "unicode/utf8.acceptRanges", "internal/bytealg.MaxLen"], apart := false, laid := [("unicode/utf8.acceptRanges", laid_unicode_utf8_acceptRanges), ("unicode/utf8.first", laid_unicode_utf8_first)] }
def FnExactCountReachedBySaid : Prop := fnExactCountReachedByRow.holds Tryd.pinned (OpenSpec.ofChange fnExactCountReachedBySpec)

/-- ITS FALSE NEIGHBOUR: 'it returns false'. Refute it at one input. -/
def fnExactCountReachedByWrong : ChangeSpec := { name := "fnExactCountReachedBy", fn := fun _ => fun
  | [d1, d2] => { results := [.lit (.bool false)], args := [d1, d2] }
  | _ => none }
def FnExactCountReachedByWrongFalsely : Prop := fnExactCountReachedByRow.holds Tryd.pinned (OpenSpec.ofChange fnExactCountReachedByWrong)

/-- 'laws.FnExactFarthestByKeys': WHATEVER THE INPUT: true; the input reads as it did. -/
def fnExactFarthestByKeysSpec : ChangeSpec := { name := "fnExactFarthestByKeys", fn := fun _ => fun
  | [d1, d2] => { results := [.lit (.bool true)], args := [d1, d2] }
  | _ => none }
def fnExactFarthestByKeysRow : OpenClaim := { program := "ytbgkcbppkhakhaadoor", sum := "4ffdc48bddabcacc6e21c61d854b986f9ea135f741035b98a289f568d721e6d3", func := "loop.example/g01314/laws.FnExactFarthestByKeys", spec := "fnExactFarthestByKeys", inPlace := ["internal/bytealg.IndexByteString", "internal/bytealg.IndexString"], unfollowed := true, recurses := true, named := ["unicode/utf8.first", "unicode/utf8.acceptRanges", "internal/bytealg.MaxLen"], apart := false, laid := [("unicode/utf8.acceptRanges", laid_unicode_utf8_acceptRanges), ("unicode/utf8.first", laid_unicode_utf8_first)] }
def FnExactFarthestByKeysSaid : Prop := fnExactFarthestByKeysRow.holds Tryd.pinned (OpenSpec.ofChange fnExactFarthestByKeysSpec)

/-- ITS FALSE NEIGHBOUR: 'it returns false'. Refute it at one input. -/
def fnExactFarthestByKeysWrong : ChangeSpec := { name := "fnExactFarthestByKeys", fn := fun _ => fun
  | [d1, d2] => { results := [.lit (.bool false)], args := [d1, d2] }
  | _ => none }
def FnExactFarthestByKeysWrongFalsely : Prop := fnExactFarthestByKeysRow.holds Tryd.pinned (OpenSpec.ofChange fnExactFarthestByKeysWrong)

/-- 'laws.FnExactFirstKeyed': WHATEVER THE INPUT: true; the input reads as it did. -/
def fnExactFirstKeyedSpec : ChangeSpec := { name := "fnExactFirstKeyed", fn := fun _ => fun
  | [d1, d2, d3] => { results := [.lit (.bool true)], args := [d1, d2, d3] }
  | _ => none }
def fnExactFirstKeyedRow : OpenClaim := { program := "ytbgkcbppkhakhaadoor", sum := "4ffdc48bddabcacc6e21c61d854b986f9ea135f741035b98a289f568d721e6d3", func := "loop.example/g01314/laws.FnExactFirstKeyed", spec := "fnExactFirstKeyed", inPlace := ["internal/bytealg.IndexByteString", "internal/bytealg.IndexString"], unfollowed := true, recurses := true, named := ["unicode/utf8.first", "unicode/utf8.acceptRanges", "internal/bytealg.MaxLen"], apart := false, laid := [("unicode/utf8.acceptRanges", laid_unicode_utf8_acceptRanges), ("unicode/utf8.first", laid_unicode_utf8_first)] }
def FnExactFirstKeyedSaid : Prop := fnExactFirstKeyedRow.holds Tryd.pinned (OpenSpec.ofChange fnExactFirstKeyedSpec)

/-- ITS FALSE NEIGHBOUR: 'it returns false'. Refute it at one input. -/
def fnExactFirstKeyedWrong : ChangeSpec := { name := "fnExactFirstKeyed", fn := fun _ => fun
  | [d1, d2, d3] => { results := [.lit (.bool false)], args := [d1, d2, d3] }
  | _ => none }
def FnExactFirstKeyedWrongFalsely : Prop := fnExactFirstKeyedRow.holds Tryd.pinned (OpenSpec.ofChange fnExactFirstKeyedWrong)

/- THE SECOND FORM. 'bulk': how many values and letters a reading holds, each counted each time it is reached (what is shared counts as often as it is met; a slice's spare places count too). A statement '..UptoSaid' is the law's where the arguments, and the package variables that the reading takes, are together of bulk at most 1048576: NARROWER than '..Said'. Prove '..Said' where nothing that the law and all that it calls make is longer than what came in: it says more and counts as full. Else prove '..UptoSaid'. A law counts once. -/
mutual
def uptoBulk {H : Type} : DataW H → Nat
  | .lit (.string bytes) => bytes.length + 1
  | .lit _ => 1
  | .nil => 1
  | .ptr d => uptoBulk d + 1
  | .slice elems spare => uptoBulkAll elems + uptoBulkAll spare + 1
  | .agg parts => uptoBulkAll parts + 1
  | .iface _ d => uptoBulk d + 1
  | .map entries => uptoBulkEntries entries + 1
  | .held _ => 1
def uptoBulkAll {H : Type} : List (DataW H) → Nat
  | [] => 0
  | d :: r => uptoBulk d + uptoBulkAll r
def uptoBulkEntries {H : Type} : List (Lit × DataW H) → Nat
  | [] => 0
  | x :: r => uptoBulkEntry x + uptoBulkEntries r
def uptoBulkEntry {H : Type} : Lit × DataW H → Nat
  | (.string bytes, d) => bytes.length + uptoBulk d + 1
  | (_, d) => uptoBulk d + 1
 end
def uptoSmall : (H : Type) → List (DataW H) → Bool := fun _ ds => decide (uptoBulkAll ds ≤ 1048576)
def OpenSpec.upto (s : _root_.Go.ChangeSpec) : _root_.Go.OpenSpec := { _root_.Go.OpenSpec.ofChange s with cond := some uptoSmall }

/-- 'laws.FnExactFitsKey', WHERE WHAT IT READS IS OF BULK AT MOST 1048576: true; the input reads as it did. -/
def fnExactFitsKeyUptoRow : OpenClaim := { program := "ytbgkcbppkhakhaadoor", sum := "4ffdc48bddabcacc6e21c61d854b986f9ea135f741035b98a289f568d721e6d3", func := "loop.example/g01314/laws.FnExactFitsKey", spec := "fnExactFitsKey", inPlace := ["internal/bytealg.IndexByteString", "internal/bytealg.IndexString"], unfollowed := true, recurses := true, named := ["unicode/utf8.first", "unicode/utf8.acceptRanges", "internal/bytealg.MaxLen"], apart := false, laid := [("unicode/utf8.acceptRanges", laid_unicode_utf8_acceptRanges), ("unicode/utf8.first", laid_unicode_utf8_first)], narrowed := true }
def FnExactFitsKeyUptoSaid : Prop := fnExactFitsKeyUptoRow.holds Tryd.pinned (OpenSpec.upto fnExactFitsKeySpec)

/-- 'laws.FnExactMoveKeyed', WHERE WHAT IT READS IS OF BULK AT MOST 1048576: true; the input reads as it did. -/
def fnExactMoveKeyedUptoRow : OpenClaim := { program := "ytbgkcbppkhakhaadoor", sum := "4ffdc48bddabcacc6e21c61d854b986f9ea135f741035b98a289f568d721e6d3", func := "loop.example/g01314/laws.FnExactMoveKeyed", spec := "fnExactMoveKeyed", inPlace := ["internal/bytealg.IndexByteString", "internal/bytealg.IndexString"], unfollowed := true, recurses := true, named := ["unicode/utf8.first", "unicode/utf8.acceptRanges", "internal/bytealg.MaxLen"], apart := false, laid := [("unicode/utf8.acceptRanges", laid_unicode_utf8_acceptRanges), ("unicode/utf8.first", laid_unicode_utf8_first)], narrowed := true }
def FnExactMoveKeyedUptoSaid : Prop := fnExactMoveKeyedUptoRow.holds Tryd.pinned (OpenSpec.upto fnExactMoveKeyedSpec)

/-- 'laws.FnExactKeyedMoves', WHERE WHAT IT READS IS OF BULK AT MOST 1048576: true; the input reads as it did. -/
def fnExactKeyedMovesUptoRow : OpenClaim := { program := "ytbgkcbppkhakhaadoor", sum := "4ffdc48bddabcacc6e21c61d854b986f9ea135f741035b98a289f568d721e6d3", func := "loop.example/g01314/laws.FnExactKeyedMoves", spec := "fnExactKeyedMoves", inPlace := ["internal/bytealg.IndexByteString", "internal/bytealg.IndexString"], unfollowed := true, recurses := true, named := ["unicode/utf8.first", "unicode/utf8.acceptRanges", "internal/bytealg.MaxLen"], apart := false, laid := [("unicode/utf8.acceptRanges", laid_unicode_utf8_acceptRanges), ("unicode/utf8.first", laid_unicode_utf8_first)], narrowed := true }
def FnExactKeyedMovesUptoSaid : Prop := fnExactKeyedMovesUptoRow.holds Tryd.pinned (OpenSpec.upto fnExactKeyedMovesSpec)

/-- 'laws.FnExactFewestKeyed', WHERE WHAT IT READS IS OF BULK AT MOST 1048576: true; the input reads as it did. -/
def fnExactFewestKeyedUptoRow : OpenClaim := { program := "ytbgkcbppkhakhaadoor", sum := "4ffdc48bddabcacc6e21c61d854b986f9ea135f741035b98a289f568d721e6d3", func := "loop.example/g01314/laws.FnExactFewestKeyed", spec := "fnExactFewestKeyed", inPlace := ["internal/bytealg.IndexByteString", "internal/bytealg.IndexString"], unfollowed := true, recurses := true, named := ["unicode/utf8.first", "unicode/utf8.acceptRanges", "internal/bytealg.MaxLen"], apart := false, laid := [("unicode/utf8.acceptRanges", laid_unicode_utf8_acceptRanges), ("unicode/utf8.first", laid_unicode_utf8_first)], narrowed := true }
def FnExactFewestKeyedUptoSaid : Prop := fnExactFewestKeyedUptoRow.holds Tryd.pinned (OpenSpec.upto fnExactFewestKeyedSpec)

/-- 'laws.FnExactCountReachedBy', WHERE WHAT IT READS IS OF BULK AT MOST 1048576: true; the input reads as it did. -/
def fnExactCountReachedByUptoRow : OpenClaim := { program := "ytbgkcbppkhakhaadoor", sum := "4ffdc48bddabcacc6e21c61d854b986f9ea135f741035b98a289f568d721e6d3", func := "loop.example/g01314/laws.FnExactCountReachedBy", spec := "fnExactCountReachedBy", inPlace := ["internal/bytealg.IndexByteString", "internal/bytealg.IndexString"], unfollowed := true, recurses := true, named := ["unicode/utf8.first", "unicode/utf8.acceptRanges", "internal/bytealg.MaxLen"], apart := false, laid := [("unicode/utf8.acceptRanges", laid_unicode_utf8_acceptRanges), ("unicode/utf8.first", laid_unicode_utf8_first)], narrowed := true }
def FnExactCountReachedByUptoSaid : Prop := fnExactCountReachedByUptoRow.holds Tryd.pinned (OpenSpec.upto fnExactCountReachedBySpec)

/-- 'laws.FnExactFarthestByKeys', WHERE WHAT IT READS IS OF BULK AT MOST 1048576: true; the input reads as it did. -/
def fnExactFarthestByKeysUptoRow : OpenClaim := { program := "ytbgkcbppkhakhaadoor", sum := "4ffdc48bddabcacc6e21c61d854b986f9ea135f741035b98a289f568d721e6d3", func := "loop.example/g01314/laws.FnExactFarthestByKeys", spec := "fnExactFarthestByKeys", inPlace := ["internal/bytealg.IndexByteString", "internal/bytealg.IndexString"], unfollowed := true, recurses := true, named := ["unicode/utf8.first", "unicode/utf8.acceptRanges", "internal/bytealg.MaxLen"], apart := false, laid := [("unicode/utf8.acceptRanges", laid_unicode_utf8_acceptRanges), ("unicode/utf8.first", laid_unicode_utf8_first)], narrowed := true }
def FnExactFarthestByKeysUptoSaid : Prop := fnExactFarthestByKeysUptoRow.holds Tryd.pinned (OpenSpec.upto fnExactFarthestByKeysSpec)

/-- 'laws.FnExactFirstKeyed', WHERE WHAT IT READS IS OF BULK AT MOST 1048576: true; the input reads as it did. -/
def fnExactFirstKeyedUptoRow : OpenClaim := { program := "ytbgkcbppkhakhaadoor", sum := "4ffdc48bddabcacc6e21c61d854b986f9ea135f741035b98a289f568d721e6d3", func := "loop.example/g01314/laws.FnExactFirstKeyed", spec := "fnExactFirstKeyed", inPlace := ["internal/bytealg.IndexByteString", "internal/bytealg.IndexString"], unfollowed := true, recurses := true, named := ["unicode/utf8.first", "unicode/utf8.acceptRanges", "internal/bytealg.MaxLen"], apart := false, laid := [("unicode/utf8.acceptRanges", laid_unicode_utf8_acceptRanges), ("unicode/utf8.first", laid_unicode_utf8_first)], narrowed := true }
def FnExactFirstKeyedUptoSaid : Prop := fnExactFirstKeyedUptoRow.holds Tryd.pinned (OpenSpec.upto fnExactFirstKeyedSpec)

end Rows
end Go.Proofs.YtbgkcbppkhakhaaDoor
