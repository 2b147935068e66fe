/-
  NARROWER THAN 'FOR EVERY INPUT', by the rows' own cells (each row's printed sentence says how): FnExactMeanToClear: laid · FnExactMeanFrom: laid · FnExactChanceBefore: laid · FnExactWalksTo: laid · FnExactChanceAfter: laid · FnExactLikeliestAfter: laid · FnExactLeastWithOn: laid · FnExactGreatestWithOn: laid · FnExactSumWithOn: laid · FnExactMeanOnAlong: laid · FnExactStatesWithOn: laid.
  DERIVED. THE GIVEN ROWS OF THIS SEAT. 11 by the template 'for every input the law returns true; each argument reads behind the call as it read before'; 0 by the template 'total and deterministic' (their statements: YtclidnndehbhjaaDoorTotals.lean).
  GIVEN WITH THE SEED: the statements are not yours to turn. If you find one false, say at which input.
  Laid BY PROGRAM, IN A SANDBOX (cutbox-rows.mjs): the forced cells as the released guide's own fill.sh prints them over the translation 127f196cf6b7f4d5… (all of the seat's roots in one cut). By AI agents, Wed Nov 11 2026. No macro, syntax, notation, axiom, sorry.
-/
import Derived.Test.YtclidnndehbhjaaDoorChecked
import GoSem.PinnedTables
import GoSem.Claim
import GoSem.ClaimJoined
import GoSem.ClaimMapViews
import Derived.JoinedTies
import Derived.KernelRfl
namespace Go.Proofs.YtclidnndehbhjaaDoor
/- THE CELL 'sum', in the pinned program and in every row, IS THE sha256 OF THE DUMP (.gsa) THAT YtclidnndehbhjaaDoorProg.lean LOADS. Nothing in Lean hashes anything: it is a label: what it is worth is what the hold of that sum in a sandbox is worth. -/
noncomputable def Tryd.pinned : Pinned := { name := "ytclidnndehbhjaadoor", sum := "127f196cf6b7f4d5660a25e75cdffa9728f1e8a76f8410adb51e3d469e201007", checked := Tryd.checked }
namespace Rows
def none {H : Type} : Left H := { results := [], args := [] }

/- WHAT THE LISTED PACKAGE-LEVEL VARIABLES READ AS WHEN THE CALL BEGINS. Each datum BY PROGRAM (the guide's laid-datum.mjs) off the statement by which the dump's own 'gosem.cut.vars' lays the variable. In a bare row this is a premise. The card (YtclidnndehbhjaaDoorCards.lean) ties it to the program's text. -/
def laid_unicode_utf8_acceptRanges {H : Type} : DataW H := .agg [.agg [.lit (.int .u8 128), .lit (.int .u8 191)], .agg [.lit (.int .u8 160), .lit (.int .u8 191)], .agg [.lit (.int .u8 128), .lit (.int .u8 159)], .agg [.lit (.int .u8 144), .lit (.int .u8 191)], .agg [.lit (.int .u8 128), .lit (.int .u8 143)], .agg [.lit (.int .u8 0), .lit (.int .u8 0)], .agg [.lit (.int .u8 0), .lit (.int .u8 0)], .agg [.lit (.int .u8 0), .lit (.int .u8 0)], .agg [.lit (.int .u8 0), .lit (.int .u8 0)], .agg [.lit (.int .u8 0), .lit (.int .u8 0)], .agg [.lit (.int .u8 0), .lit (.int .u8 0)], .agg [.lit (.int .u8 0), .lit (.int .u8 0)], .agg [.lit (.int .u8 0), .lit (.int .u8 0)], .agg [.lit (.int .u8 0), .lit (.int .u8 0)], .agg [.lit (.int .u8 0), .lit (.int .u8 0)], .agg [.lit (.int .u8 0), .lit (.int .u8 0)]]
/-- One of Go's own tables, pinned by name: the form's constant. -/
def laid_unicode_utf8_first : DataW Unit := Go.Pinned.utf8First

/-- 'laws.FnExactMeanToClear': WHATEVER THE INPUT: true; the input reads as it did. -/
def fnExactMeanToClearSpec : ChangeSpec := { name := "fnExactMeanToClear", fn := fun _ => fun
  | [d] => { results := [.lit (.bool true)], args := [d] }
  | _ => none }
def fnExactMeanToClearRow : OpenClaim := { program := "ytclidnndehbhjaadoor", sum := "127f196cf6b7f4d5660a25e75cdffa9728f1e8a76f8410adb51e3d469e201007", func := "loop.example/g01314/laws.FnExactMeanToClear", spec := "fnExactMeanToClear", inPlace := ["internal/bytealg.IndexByteString", "internal/bytealg.IndexString"], named := ["unicode/utf8.first", "unicode/utf8.acceptRanges", "internal/bytealg.MaxLen"], apart := false, laid := [("unicode/utf8.acceptRanges", laid_unicode_utf8_acceptRanges), ("unicode/utf8.first", laid_unicode_utf8_first)] }
def FnExactMeanToClearSaid : Prop := fnExactMeanToClearRow.holds Tryd.pinned (OpenSpec.ofChange fnExactMeanToClearSpec)

/-- ITS FALSE NEIGHBOUR: 'it returns false'. Refute it at one input. -/
def fnExactMeanToClearWrong : ChangeSpec := { name := "fnExactMeanToClear", fn := fun _ => fun
  | [d] => { results := [.lit (.bool false)], args := [d] }
  | _ => none }
def FnExactMeanToClearWrongFalsely : Prop := fnExactMeanToClearRow.holds Tryd.pinned (OpenSpec.ofChange fnExactMeanToClearWrong)

/-- 'laws.FnExactMeanFrom': WHATEVER THE INPUT: true; the input reads as it did. -/
def fnExactMeanFromSpec : ChangeSpec := { name := "fnExactMeanFrom", fn := fun _ => fun
  | [d1, d2] => { results := [.lit (.bool true)], args := [d1, d2] }
  | _ => none }
def fnExactMeanFromRow : OpenClaim := { program := "ytclidnndehbhjaadoor", sum := "127f196cf6b7f4d5660a25e75cdffa9728f1e8a76f8410adb51e3d469e201007", func := "loop.example/g01314/laws.FnExactMeanFrom", spec := "fnExactMeanFrom", inPlace := ["internal/bytealg.IndexByteString", "internal/bytealg.IndexString"], named := ["unicode/utf8.first", "unicode/utf8.acceptRanges", "internal/bytealg.MaxLen"], apart := false, laid := [("unicode/utf8.acceptRanges", laid_unicode_utf8_acceptRanges), ("unicode/utf8.first", laid_unicode_utf8_first)] }
def FnExactMeanFromSaid : Prop := fnExactMeanFromRow.holds Tryd.pinned (OpenSpec.ofChange fnExactMeanFromSpec)

/-- ITS FALSE NEIGHBOUR: 'it returns false'. Refute it at one input. -/
def fnExactMeanFromWrong : ChangeSpec := { name := "fnExactMeanFrom", fn := fun _ => fun
  | [d1, d2] => { results := [.lit (.bool false)], args := [d1, d2] }
  | _ => none }
def FnExactMeanFromWrongFalsely : Prop := fnExactMeanFromRow.holds Tryd.pinned (OpenSpec.ofChange fnExactMeanFromWrong)

/-- 'laws.FnExactChanceBefore': WHATEVER THE INPUT: true; the input reads as it did. -/
def fnExactChanceBeforeSpec : ChangeSpec := { name := "fnExactChanceBefore", fn := fun _ => fun
  | [d1, d2, d3] => { results := [.lit (.bool true)], args := [d1, d2, d3] }
  | _ => none }
def fnExactChanceBeforeRow : OpenClaim := { program := "ytclidnndehbhjaadoor", sum := "127f196cf6b7f4d5660a25e75cdffa9728f1e8a76f8410adb51e3d469e201007", func := "loop.example/g01314/laws.FnExactChanceBefore", spec := "fnExactChanceBefore", inPlace := ["internal/bytealg.IndexByteString", "internal/bytealg.IndexString"], named := ["unicode/utf8.first", "unicode/utf8.acceptRanges", "internal/bytealg.MaxLen"], apart := false, laid := [("unicode/utf8.acceptRanges", laid_unicode_utf8_acceptRanges), ("unicode/utf8.first", laid_unicode_utf8_first)] }
def FnExactChanceBeforeSaid : Prop := fnExactChanceBeforeRow.holds Tryd.pinned (OpenSpec.ofChange fnExactChanceBeforeSpec)

/-- ITS FALSE NEIGHBOUR: 'it returns false'. Refute it at one input. -/
def fnExactChanceBeforeWrong : ChangeSpec := { name := "fnExactChanceBefore", fn := fun _ => fun
  | [d1, d2, d3] => { results := [.lit (.bool false)], args := [d1, d2, d3] }
  | _ => none }
def FnExactChanceBeforeWrongFalsely : Prop := fnExactChanceBeforeRow.holds Tryd.pinned (OpenSpec.ofChange fnExactChanceBeforeWrong)

/-- 'laws.FnExactWalksTo': WHATEVER THE INPUT: true; the input reads as it did. -/
def fnExactWalksToSpec : ChangeSpec := { name := "fnExactWalksTo", fn := fun _ => fun
  | [d1, d2, d3] => { results := [.lit (.bool true)], args := [d1, d2, d3] }
  | _ => none }
def fnExactWalksToRow : OpenClaim := { program := "ytclidnndehbhjaadoor", sum := "127f196cf6b7f4d5660a25e75cdffa9728f1e8a76f8410adb51e3d469e201007", func := "loop.example/g01314/laws.FnExactWalksTo", spec := "fnExactWalksTo", inPlace := ["internal/bytealg.IndexByteString", "internal/bytealg.IndexString"], named := ["unicode/utf8.first", "unicode/utf8.acceptRanges", "internal/bytealg.MaxLen"], apart := false, laid := [("unicode/utf8.acceptRanges", laid_unicode_utf8_acceptRanges), ("unicode/utf8.first", laid_unicode_utf8_first)] }
def FnExactWalksToSaid : Prop := fnExactWalksToRow.holds Tryd.pinned (OpenSpec.ofChange fnExactWalksToSpec)

/-- ITS FALSE NEIGHBOUR: 'it returns false'. Refute it at one input. -/
def fnExactWalksToWrong : ChangeSpec := { name := "fnExactWalksTo", fn := fun _ => fun
  | [d1, d2, d3] => { results := [.lit (.bool false)], args := [d1, d2, d3] }
  | _ => none }
def FnExactWalksToWrongFalsely : Prop := fnExactWalksToRow.holds Tryd.pinned (OpenSpec.ofChange fnExactWalksToWrong)

/-- 'laws.FnExactChanceAfter': WHATEVER THE INPUT: true; the input reads as it did. -/
def fnExactChanceAfterSpec : ChangeSpec := { name := "fnExactChanceAfter", fn := fun _ => fun
  | [d1, d2, d3] => { results := [.lit (.bool true)], args := [d1, d2, d3] }
  | _ => none }
def fnExactChanceAfterRow : OpenClaim := { program := "ytclidnndehbhjaadoor", sum := "127f196cf6b7f4d5660a25e75cdffa9728f1e8a76f8410adb51e3d469e201007", func := "loop.example/g01314/laws.FnExactChanceAfter", spec := "fnExactChanceAfter", inPlace := ["internal/bytealg.IndexByteString", "internal/bytealg.IndexString"], named := ["unicode/utf8.first", "unicode/utf8.acceptRanges", "internal/bytealg.MaxLen"], apart := false, laid := [("unicode/utf8.acceptRanges", laid_unicode_utf8_acceptRanges), ("unicode/utf8.first", laid_unicode_utf8_first)] }
def FnExactChanceAfterSaid : Prop := fnExactChanceAfterRow.holds Tryd.pinned (OpenSpec.ofChange fnExactChanceAfterSpec)

/-- ITS FALSE NEIGHBOUR: 'it returns false'. Refute it at one input. -/
def fnExactChanceAfterWrong : ChangeSpec := { name := "fnExactChanceAfter", fn := fun _ => fun
  | [d1, d2, d3] => { results := [.lit (.bool false)], args := [d1, d2, d3] }
  | _ => none }
def FnExactChanceAfterWrongFalsely : Prop := fnExactChanceAfterRow.holds Tryd.pinned (OpenSpec.ofChange fnExactChanceAfterWrong)

/-- 'laws.FnExactLikeliestAfter': WHATEVER THE INPUT: true; the input reads as it did. -/
def fnExactLikeliestAfterSpec : ChangeSpec := { name := "fnExactLikeliestAfter", fn := fun _ => fun
  | [d1, d2] => { results := [.lit (.bool true)], args := [d1, d2] }
  | _ => none }
def fnExactLikeliestAfterRow : OpenClaim := { program := "ytclidnndehbhjaadoor", sum := "127f196cf6b7f4d5660a25e75cdffa9728f1e8a76f8410adb51e3d469e201007", func := "loop.example/g01314/laws.FnExactLikeliestAfter", spec := "fnExactLikeliestAfter", inPlace := ["internal/bytealg.IndexByteString", "internal/bytealg.IndexString"], unfollowed := true, recurses := true, named := ["unicode/utf8.first", "unicode/utf8.acceptRanges", "internal/bytealg.MaxLen"], apart := false, laid := [("unicode/utf8.acceptRanges", laid_unicode_utf8_acceptRanges), ("unicode/utf8.first", laid_unicode_utf8_first)] }
def FnExactLikeliestAfterSaid : Prop := fnExactLikeliestAfterRow.holds Tryd.pinned (OpenSpec.ofChange fnExactLikeliestAfterSpec)

/-- ITS FALSE NEIGHBOUR: 'it returns false'. Refute it at one input. -/
def fnExactLikeliestAfterWrong : ChangeSpec := { name := "fnExactLikeliestAfter", fn := fun _ => fun
  | [d1, d2] => { results := [.lit (.bool false)], args := [d1, d2] }
  | _ => none }
def FnExactLikeliestAfterWrongFalsely : Prop := fnExactLikeliestAfterRow.holds Tryd.pinned (OpenSpec.ofChange fnExactLikeliestAfterWrong)

/-- 'laws.FnExactLeastWithOn': WHATEVER THE INPUT: true; the input reads as it did. -/
def fnExactLeastWithOnSpec : ChangeSpec := { name := "fnExactLeastWithOn", fn := fun _ => fun
  | [d1, d2] => { results := [.lit (.bool true)], args := [d1, d2] }
  | _ => none }
def fnExactLeastWithOnRow : OpenClaim := { program := "ytclidnndehbhjaadoor", sum := "127f196cf6b7f4d5660a25e75cdffa9728f1e8a76f8410adb51e3d469e201007", func := "loop.example/g01314/laws.FnExactLeastWithOn", spec := "fnExactLeastWithOn", inPlace := ["internal/bytealg.IndexByteString", "internal/bytealg.IndexString", "internal/bytealg.CountString"], unfollowed := true, recurses := true, named := ["unicode/utf8.first", "unicode/utf8.acceptRanges", "internal/bytealg.MaxLen"], apart := false, laid := [("unicode/utf8.acceptRanges", laid_unicode_utf8_acceptRanges), ("unicode/utf8.first", laid_unicode_utf8_first)] }
def FnExactLeastWithOnSaid : Prop := fnExactLeastWithOnRow.holds Tryd.pinned (OpenSpec.ofChange fnExactLeastWithOnSpec)

/-- ITS FALSE NEIGHBOUR: 'it returns false'. Refute it at one input. -/
def fnExactLeastWithOnWrong : ChangeSpec := { name := "fnExactLeastWithOn", fn := fun _ => fun
  | [d1, d2] => { results := [.lit (.bool false)], args := [d1, d2] }
  | _ => none }
def FnExactLeastWithOnWrongFalsely : Prop := fnExactLeastWithOnRow.holds Tryd.pinned (OpenSpec.ofChange fnExactLeastWithOnWrong)

/-- 'laws.FnExactGreatestWithOn': WHATEVER THE INPUT: true; the input reads as it did. -/
def fnExactGreatestWithOnSpec : ChangeSpec := { name := "fnExactGreatestWithOn", fn := fun _ => fun
  | [d1, d2] => { results := [.lit (.bool true)], args := [d1, d2] }
  | _ => none }
def fnExactGreatestWithOnRow : OpenClaim := { program := "ytclidnndehbhjaadoor", sum := "127f196cf6b7f4d5660a25e75cdffa9728f1e8a76f8410adb51e3d469e201007", func := "loop.example/g01314/laws.FnExactGreatestWithOn", spec := "fnExactGreatestWithOn", inPlace := ["internal/bytealg.IndexByteString", "internal/bytealg.IndexString", "internal/bytealg.CountString"], unfollowed := true, recurses := true, named := ["unicode/utf8.first", "unicode/utf8.acceptRanges", "internal/bytealg.MaxLen"], apart := false, laid := [("unicode/utf8.acceptRanges", laid_unicode_utf8_acceptRanges), ("unicode/utf8.first", laid_unicode_utf8_first)] }
def FnExactGreatestWithOnSaid : Prop := fnExactGreatestWithOnRow.holds Tryd.pinned (OpenSpec.ofChange fnExactGreatestWithOnSpec)

/-- ITS FALSE NEIGHBOUR: 'it returns false'. Refute it at one input. -/
def fnExactGreatestWithOnWrong : ChangeSpec := { name := "fnExactGreatestWithOn", fn := fun _ => fun
  | [d1, d2] => { results := [.lit (.bool false)], args := [d1, d2] }
  | _ => none }
def FnExactGreatestWithOnWrongFalsely : Prop := fnExactGreatestWithOnRow.holds Tryd.pinned (OpenSpec.ofChange fnExactGreatestWithOnWrong)

/-- 'laws.FnExactSumWithOn': WHATEVER THE INPUT: true; the input reads as it did. -/
def fnExactSumWithOnSpec : ChangeSpec := { name := "fnExactSumWithOn", fn := fun _ => fun
  | [d1, d2] => { results := [.lit (.bool true)], args := [d1, d2] }
  | _ => none }
def fnExactSumWithOnRow : OpenClaim := { program := "ytclidnndehbhjaadoor", sum := "127f196cf6b7f4d5660a25e75cdffa9728f1e8a76f8410adb51e3d469e201007", func := "loop.example/g01314/laws.FnExactSumWithOn", spec := "fnExactSumWithOn", inPlace := ["internal/bytealg.IndexByteString", "internal/bytealg.IndexString", "internal/bytealg.CountString"], unfollowed := true, recurses := true, named := ["unicode/utf8.first", "unicode/utf8.acceptRanges", "internal/bytealg.MaxLen"], apart := false, laid := [("unicode/utf8.acceptRanges", laid_unicode_utf8_acceptRanges), ("unicode/utf8.first", laid_unicode_utf8_first)] }
def FnExactSumWithOnSaid : Prop := fnExactSumWithOnRow.holds Tryd.pinned (OpenSpec.ofChange fnExactSumWithOnSpec)

/-- ITS FALSE NEIGHBOUR: 'it returns false'. Refute it at one input. -/
def fnExactSumWithOnWrong : ChangeSpec := { name := "fnExactSumWithOn", fn := fun _ => fun
  | [d1, d2] => { results := [.lit (.bool false)], args := [d1, d2] }
  | _ => none }
def FnExactSumWithOnWrongFalsely : Prop := fnExactSumWithOnRow.holds Tryd.pinned (OpenSpec.ofChange fnExactSumWithOnWrong)

/-- 'laws.FnExactMeanOnAlong': WHATEVER THE INPUT: true; the input reads as it did. -/
def fnExactMeanOnAlongSpec : ChangeSpec := { name := "fnExactMeanOnAlong", fn := fun _ => fun
  | [d1, d2] => { results := [.lit (.bool true)], args := [d1, d2] }
  | _ => none }
def fnExactMeanOnAlongRow : OpenClaim := { program := "ytclidnndehbhjaadoor", sum := "127f196cf6b7f4d5660a25e75cdffa9728f1e8a76f8410adb51e3d469e201007", func := "loop.example/g01314/laws.FnExactMeanOnAlong", spec := "fnExactMeanOnAlong", inPlace := ["internal/bytealg.IndexByteString", "internal/bytealg.IndexString", "internal/bytealg.CountString"], named := ["unicode/utf8.first", "unicode/utf8.acceptRanges", "internal/bytealg.MaxLen"], apart := false, laid := [("unicode/utf8.acceptRanges", laid_unicode_utf8_acceptRanges), ("unicode/utf8.first", laid_unicode_utf8_first)] }
def FnExactMeanOnAlongSaid : Prop := fnExactMeanOnAlongRow.holds Tryd.pinned (OpenSpec.ofChange fnExactMeanOnAlongSpec)

/-- ITS FALSE NEIGHBOUR: 'it returns false'. Refute it at one input. -/
def fnExactMeanOnAlongWrong : ChangeSpec := { name := "fnExactMeanOnAlong", fn := fun _ => fun
  | [d1, d2] => { results := [.lit (.bool false)], args := [d1, d2] }
  | _ => none }
def FnExactMeanOnAlongWrongFalsely : Prop := fnExactMeanOnAlongRow.holds Tryd.pinned (OpenSpec.ofChange fnExactMeanOnAlongWrong)

/-- 'laws.FnExactStatesWithOn': WHATEVER THE INPUT: true; the input reads as it did. -/
def fnExactStatesWithOnSpec : ChangeSpec := { name := "fnExactStatesWithOn", fn := fun _ => fun
  | [d1, d2] => { results := [.lit (.bool true)], args := [d1, d2] }
  | _ => none }
def fnExactStatesWithOnRow : OpenClaim := { program := "ytclidnndehbhjaadoor", sum := "127f196cf6b7f4d5660a25e75cdffa9728f1e8a76f8410adb51e3d469e201007", func := "loop.example/g01314/laws.FnExactStatesWithOn", spec := "fnExactStatesWithOn", inPlace := ["internal/bytealg.IndexByteString", "internal/bytealg.IndexString", "internal/bytealg.CountString"], unfollowed := true, recurses := true, named := ["unicode/utf8.first", "unicode/utf8.acceptRanges", "internal/bytealg.MaxLen"], apart := false, laid := [("unicode/utf8.acceptRanges", laid_unicode_utf8_acceptRanges), ("unicode/utf8.first", laid_unicode_utf8_first)] }
def FnExactStatesWithOnSaid : Prop := fnExactStatesWithOnRow.holds Tryd.pinned (OpenSpec.ofChange fnExactStatesWithOnSpec)

/-- ITS FALSE NEIGHBOUR: 'it returns false'. Refute it at one input. -/
def fnExactStatesWithOnWrong : ChangeSpec := { name := "fnExactStatesWithOn", fn := fun _ => fun
  | [d1, d2] => { results := [.lit (.bool false)], args := [d1, d2] }
  | _ => none }
def FnExactStatesWithOnWrongFalsely : Prop := fnExactStatesWithOnRow.holds Tryd.pinned (OpenSpec.ofChange fnExactStatesWithOnWrong)

/- THE SECOND FORM. 'bulk': how many values and letters a reading holds, each counted each time it is reached (what is shared counts as often as it is met; a slice's spare places count too). A statement '..UptoSaid' is the law's where the arguments, and the package variables that the reading takes, are together of bulk at most 1048576: NARROWER than '..Said'. Prove '..Said' where nothing that the law and all that it calls make is longer than what came in: it says more and counts as full. Else prove '..UptoSaid'. A law counts once. -/
mutual
def uptoBulk {H : Type} : DataW H → Nat
  | .lit (.string bytes) => bytes.length + 1
  | .lit _ => 1
  | .nil => 1
  | .ptr d => uptoBulk d + 1
  | .slice elems spare => uptoBulkAll elems + uptoBulkAll spare + 1
  | .agg parts => uptoBulkAll parts + 1
  | .iface _ d => uptoBulk d + 1
  | .map entries => uptoBulkEntries entries + 1
  | .held _ => 1
def uptoBulkAll {H : Type} : List (DataW H) → Nat
  | [] => 0
  | d :: r => uptoBulk d + uptoBulkAll r
def uptoBulkEntries {H : Type} : List (Lit × DataW H) → Nat
  | [] => 0
  | x :: r => uptoBulkEntry x + uptoBulkEntries r
def uptoBulkEntry {H : Type} : Lit × DataW H → Nat
  | (.string bytes, d) => bytes.length + uptoBulk d + 1
  | (_, d) => uptoBulk d + 1
 end
def uptoSmall : (H : Type) → List (DataW H) → Bool := fun _ ds => decide (uptoBulkAll ds ≤ 1048576)
def OpenSpec.upto (s : _root_.Go.ChangeSpec) : _root_.Go.OpenSpec := { _root_.Go.OpenSpec.ofChange s with cond := some uptoSmall }

/-- 'laws.FnExactMeanToClear', WHERE WHAT IT READS IS OF BULK AT MOST 1048576: true; the input reads as it did. -/
def fnExactMeanToClearUptoRow : OpenClaim := { program := "ytclidnndehbhjaadoor", sum := "127f196cf6b7f4d5660a25e75cdffa9728f1e8a76f8410adb51e3d469e201007", func := "loop.example/g01314/laws.FnExactMeanToClear", spec := "fnExactMeanToClear", inPlace := ["internal/bytealg.IndexByteString", "internal/bytealg.IndexString"], named := ["unicode/utf8.first", "unicode/utf8.acceptRanges", "internal/bytealg.MaxLen"], apart := false, laid := [("unicode/utf8.acceptRanges", laid_unicode_utf8_acceptRanges), ("unicode/utf8.first", laid_unicode_utf8_first)], narrowed := true }
def FnExactMeanToClearUptoSaid : Prop := fnExactMeanToClearUptoRow.holds Tryd.pinned (OpenSpec.upto fnExactMeanToClearSpec)

/-- 'laws.FnExactMeanFrom', WHERE WHAT IT READS IS OF BULK AT MOST 1048576: true; the input reads as it did. -/
def fnExactMeanFromUptoRow : OpenClaim := { program := "ytclidnndehbhjaadoor", sum := "127f196cf6b7f4d5660a25e75cdffa9728f1e8a76f8410adb51e3d469e201007", func := "loop.example/g01314/laws.FnExactMeanFrom", spec := "fnExactMeanFrom", inPlace := ["internal/bytealg.IndexByteString", "internal/bytealg.IndexString"], named := ["unicode/utf8.first", "unicode/utf8.acceptRanges", "internal/bytealg.MaxLen"], apart := false, laid := [("unicode/utf8.acceptRanges", laid_unicode_utf8_acceptRanges), ("unicode/utf8.first", laid_unicode_utf8_first)], narrowed := true }
def FnExactMeanFromUptoSaid : Prop := fnExactMeanFromUptoRow.holds Tryd.pinned (OpenSpec.upto fnExactMeanFromSpec)

/-- 'laws.FnExactChanceBefore', WHERE WHAT IT READS IS OF BULK AT MOST 1048576: true; the input reads as it did. -/
def fnExactChanceBeforeUptoRow : OpenClaim := { program := "ytclidnndehbhjaadoor", sum := "127f196cf6b7f4d5660a25e75cdffa9728f1e8a76f8410adb51e3d469e201007", func := "loop.example/g01314/laws.FnExactChanceBefore", spec := "fnExactChanceBefore", inPlace := ["internal/bytealg.IndexByteString", "internal/bytealg.IndexString"], named := ["unicode/utf8.first", "unicode/utf8.acceptRanges", "internal/bytealg.MaxLen"], apart := false, laid := [("unicode/utf8.acceptRanges", laid_unicode_utf8_acceptRanges), ("unicode/utf8.first", laid_unicode_utf8_first)], narrowed := true }
def FnExactChanceBeforeUptoSaid : Prop := fnExactChanceBeforeUptoRow.holds Tryd.pinned (OpenSpec.upto fnExactChanceBeforeSpec)

/-- 'laws.FnExactWalksTo', WHERE WHAT IT READS IS OF BULK AT MOST 1048576: true; the input reads as it did. -/
def fnExactWalksToUptoRow : OpenClaim := { program := "ytclidnndehbhjaadoor", sum := "127f196cf6b7f4d5660a25e75cdffa9728f1e8a76f8410adb51e3d469e201007", func := "loop.example/g01314/laws.FnExactWalksTo", spec := "fnExactWalksTo", inPlace := ["internal/bytealg.IndexByteString", "internal/bytealg.IndexString"], named := ["unicode/utf8.first", "unicode/utf8.acceptRanges", "internal/bytealg.MaxLen"], apart := false, laid := [("unicode/utf8.acceptRanges", laid_unicode_utf8_acceptRanges), ("unicode/utf8.first", laid_unicode_utf8_first)], narrowed := true }
def FnExactWalksToUptoSaid : Prop := fnExactWalksToUptoRow.holds Tryd.pinned (OpenSpec.upto fnExactWalksToSpec)

/-- 'laws.FnExactChanceAfter', WHERE WHAT IT READS IS OF BULK AT MOST 1048576: true; the input reads as it did. -/
def fnExactChanceAfterUptoRow : OpenClaim := { program := "ytclidnndehbhjaadoor", sum := "127f196cf6b7f4d5660a25e75cdffa9728f1e8a76f8410adb51e3d469e201007", func := "loop.example/g01314/laws.FnExactChanceAfter", spec := "fnExactChanceAfter", inPlace := ["internal/bytealg.IndexByteString", "internal/bytealg.IndexString"], named := ["unicode/utf8.first", "unicode/utf8.acceptRanges", "internal/bytealg.MaxLen"], apart := false, laid := [("unicode/utf8.acceptRanges", laid_unicode_utf8_acceptRanges), ("unicode/utf8.first", laid_unicode_utf8_first)], narrowed := true }
def FnExactChanceAfterUptoSaid : Prop := fnExactChanceAfterUptoRow.holds Tryd.pinned (OpenSpec.upto fnExactChanceAfterSpec)

/-- 'laws.FnExactLikeliestAfter', WHERE WHAT IT READS IS OF BULK AT MOST 1048576: true; the input reads as it did. -/
def fnExactLikeliestAfterUptoRow : OpenClaim := { program := "ytclidnndehbhjaadoor", sum := "127f196cf6b7f4d5660a25e75cdffa9728f1e8a76f8410adb51e3d469e201007", func := "loop.example/g01314/laws.FnExactLikeliestAfter", spec := "fnExactLikeliestAfter", inPlace := ["internal/bytealg.IndexByteString", "internal/bytealg.IndexString"], unfollowed := true, recurses := true, named := ["unicode/utf8.first", "unicode/utf8.acceptRanges", "internal/bytealg.MaxLen"], apart := false, laid := [("unicode/utf8.acceptRanges", laid_unicode_utf8_acceptRanges), ("unicode/utf8.first", laid_unicode_utf8_first)], narrowed := true }
def FnExactLikeliestAfterUptoSaid : Prop := fnExactLikeliestAfterUptoRow.holds Tryd.pinned (OpenSpec.upto fnExactLikeliestAfterSpec)

/-- 'laws.FnExactLeastWithOn', WHERE WHAT IT READS IS OF BULK AT MOST 1048576: true; the input reads as it did. -/
def fnExactLeastWithOnUptoRow : OpenClaim := { program := "ytclidnndehbhjaadoor", sum := "127f196cf6b7f4d5660a25e75cdffa9728f1e8a76f8410adb51e3d469e201007", func := "loop.example/g01314/laws.FnExactLeastWithOn", spec := "fnExactLeastWithOn", inPlace := ["internal/bytealg.IndexByteString", "internal/bytealg.IndexString", "internal/bytealg.CountString"], unfollowed := true, recurses := true, named := ["unicode/utf8.first", "unicode/utf8.acceptRanges", "internal/bytealg.MaxLen"], apart := false, laid := [("unicode/utf8.acceptRanges", laid_unicode_utf8_acceptRanges), ("unicode/utf8.first", laid_unicode_utf8_first)], narrowed := true }
def FnExactLeastWithOnUptoSaid : Prop := fnExactLeastWithOnUptoRow.holds Tryd.pinned (OpenSpec.upto fnExactLeastWithOnSpec)

/-- 'laws.FnExactGreatestWithOn', WHERE WHAT IT READS IS OF BULK AT MOST 1048576: true; the input reads as it did. -/
def fnExactGreatestWithOnUptoRow : OpenClaim := { program := "ytclidnndehbhjaadoor", sum := "127f196cf6b7f4d5660a25e75cdffa9728f1e8a76f8410adb51e3d469e201007", func := "loop.example/g01314/laws.FnExactGreatestWithOn", spec := "fnExactGreatestWithOn", inPlace := ["internal/bytealg.IndexByteString", "internal/bytealg.IndexString", "internal/bytealg.CountString"], unfollowed := true, recurses := true, named := ["unicode/utf8.first", "unicode/utf8.acceptRanges", "internal/bytealg.MaxLen"], apart := false, laid := [("unicode/utf8.acceptRanges", laid_unicode_utf8_acceptRanges), ("unicode/utf8.first", laid_unicode_utf8_first)], narrowed := true }
def FnExactGreatestWithOnUptoSaid : Prop := fnExactGreatestWithOnUptoRow.holds Tryd.pinned (OpenSpec.upto fnExactGreatestWithOnSpec)

/-- 'laws.FnExactSumWithOn', WHERE WHAT IT READS IS OF BULK AT MOST 1048576: true; the input reads as it did. -/
def fnExactSumWithOnUptoRow : OpenClaim := { program := "ytclidnndehbhjaadoor", sum := "127f196cf6b7f4d5660a25e75cdffa9728f1e8a76f8410adb51e3d469e201007", func := "loop.example/g01314/laws.FnExactSumWithOn", spec := "fnExactSumWithOn", inPlace := ["internal/bytealg.IndexByteString", "internal/bytealg.IndexString", "internal/bytealg.CountString"], unfollowed := true, recurses := true, named := ["unicode/utf8.first", "unicode/utf8.acceptRanges", "internal/bytealg.MaxLen"], apart := false, laid := [("unicode/utf8.acceptRanges", laid_unicode_utf8_acceptRanges), ("unicode/utf8.first", laid_unicode_utf8_first)], narrowed := true }
def FnExactSumWithOnUptoSaid : Prop := fnExactSumWithOnUptoRow.holds Tryd.pinned (OpenSpec.upto fnExactSumWithOnSpec)

/-- 'laws.FnExactMeanOnAlong', WHERE WHAT IT READS IS OF BULK AT MOST 1048576: true; the input reads as it did. -/
def fnExactMeanOnAlongUptoRow : OpenClaim := { program := "ytclidnndehbhjaadoor", sum := "127f196cf6b7f4d5660a25e75cdffa9728f1e8a76f8410adb51e3d469e201007", func := "loop.example/g01314/laws.FnExactMeanOnAlong", spec := "fnExactMeanOnAlong", inPlace := ["internal/bytealg.IndexByteString", "internal/bytealg.IndexString", "internal/bytealg.CountString"], named := ["unicode/utf8.first", "unicode/utf8.acceptRanges", "internal/bytealg.MaxLen"], apart := false, laid := [("unicode/utf8.acceptRanges", laid_unicode_utf8_acceptRanges), ("unicode/utf8.first", laid_unicode_utf8_first)], narrowed := true }
def FnExactMeanOnAlongUptoSaid : Prop := fnExactMeanOnAlongUptoRow.holds Tryd.pinned (OpenSpec.upto fnExactMeanOnAlongSpec)

/-- 'laws.FnExactStatesWithOn', WHERE WHAT IT READS IS OF BULK AT MOST 1048576: true; the input reads as it did. -/
def fnExactStatesWithOnUptoRow : OpenClaim := { program := "ytclidnndehbhjaadoor", sum := "127f196cf6b7f4d5660a25e75cdffa9728f1e8a76f8410adb51e3d469e201007", func := "loop.example/g01314/laws.FnExactStatesWithOn", spec := "fnExactStatesWithOn", inPlace := ["internal/bytealg.IndexByteString", "internal/bytealg.IndexString", "internal/bytealg.CountString"], unfollowed := true, recurses := true, named := ["unicode/utf8.first", "unicode/utf8.acceptRanges", "internal/bytealg.MaxLen"], apart := false, laid := [("unicode/utf8.acceptRanges", laid_unicode_utf8_acceptRanges), ("unicode/utf8.first", laid_unicode_utf8_first)], narrowed := true }
def FnExactStatesWithOnUptoSaid : Prop := fnExactStatesWithOnUptoRow.holds Tryd.pinned (OpenSpec.upto fnExactStatesWithOnSpec)

end Rows
end Go.Proofs.YtclidnndehbhjaaDoor
