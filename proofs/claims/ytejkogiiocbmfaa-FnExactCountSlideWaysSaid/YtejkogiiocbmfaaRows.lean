/-
  No cell of these rows narrows 'for every input' (looked for: loops, veiled, ifaces, maps, wideKeys, modest, calm, conditions, laid).
  DERIVED. THE GIVEN ROWS OF THIS SEAT. 10 by the template 'for every input the law returns true; each argument reads behind the call as it read before'; 0 by the template 'total and deterministic' (their statements: YtejkogiiocbmfaaTotals.lean).
  GIVEN WITH THE SEED: the statements are not yours to turn. If you find one false, say at which input.
  Laid BY PROGRAM, IN A SANDBOX (cutbox-rows.mjs): the forced cells as the released guide's own fill.sh prints them over the translation cd19a4129c385ecf… (all of the seat's roots in one cut). By AI agents, Wed Nov 11 2026. No macro, syntax, notation, axiom, sorry.
-/
import Derived.Test.YtejkogiiocbmfaaChecked
import GoSem.Claim
import GoSem.ClaimJoined
import GoSem.ClaimMapViews
import Derived.JoinedTies
import Derived.KernelRfl
namespace Go.Proofs.Ytejkogiiocbmfaa
/- THE CELL 'sum', in the pinned program and in every row, IS THE sha256 OF THE DUMP (.gsa) THAT YtejkogiiocbmfaaProg.lean LOADS. Nothing in Lean hashes anything: it is a label: what it is worth is what the hold of that sum in a sandbox is worth. -/
noncomputable def Try.pinned : Pinned := { name := "ytejkogiiocbmfaa", sum := "cd19a4129c385ecf0d484607e9e83c824e1c3855ce432c51479681fe1ea52f76", checked := Try.checked }
namespace Rows
def none {H : Type} : Left H := { results := [], args := [] }

/-- 'laws.FnExactSlideBolt': WHATEVER THE INPUT: true; the input reads as it did. -/
def fnExactSlideBoltSpec : ChangeSpec := { name := "fnExactSlideBolt", fn := fun _ => fun
  | [d1, d2, d3] => { results := [.lit (.bool true)], args := [d1, d2, d3] }
  | _ => none }
def fnExactSlideBoltRow : OpenClaim := { program := "ytejkogiiocbmfaa", sum := "cd19a4129c385ecf0d484607e9e83c824e1c3855ce432c51479681fe1ea52f76", func := "loop.example/g01314/laws.FnExactSlideBolt", spec := "fnExactSlideBolt", unfollowed := true, recurses := true, apart := false }
def FnExactSlideBoltSaid : Prop := fnExactSlideBoltRow.holds Try.pinned (OpenSpec.ofChange fnExactSlideBoltSpec)

/-- ITS FALSE NEIGHBOUR: 'it returns false'. Refute it at one input. -/
def fnExactSlideBoltWrong : ChangeSpec := { name := "fnExactSlideBolt", fn := fun _ => fun
  | [d1, d2, d3] => { results := [.lit (.bool false)], args := [d1, d2, d3] }
  | _ => none }
def FnExactSlideBoltWrongFalsely : Prop := fnExactSlideBoltRow.holds Try.pinned (OpenSpec.ofChange fnExactSlideBoltWrong)

/-- 'laws.FnExactCountSlid': WHATEVER THE INPUT: true; the input reads as it did. -/
def fnExactCountSlidSpec : ChangeSpec := { name := "fnExactCountSlid", fn := fun _ => fun
  | [d1, d2] => { results := [.lit (.bool true)], args := [d1, d2] }
  | _ => none }
def fnExactCountSlidRow : OpenClaim := { program := "ytejkogiiocbmfaa", sum := "cd19a4129c385ecf0d484607e9e83c824e1c3855ce432c51479681fe1ea52f76", func := "loop.example/g01314/laws.FnExactCountSlid", spec := "fnExactCountSlid", unfollowed := true, recurses := true, apart := false }
def FnExactCountSlidSaid : Prop := fnExactCountSlidRow.holds Try.pinned (OpenSpec.ofChange fnExactCountSlidSpec)

/-- ITS FALSE NEIGHBOUR: 'it returns false'. Refute it at one input. -/
def fnExactCountSlidWrong : ChangeSpec := { name := "fnExactCountSlid", fn := fun _ => fun
  | [d1, d2] => { results := [.lit (.bool false)], args := [d1, d2] }
  | _ => none }
def FnExactCountSlidWrongFalsely : Prop := fnExactCountSlidRow.holds Try.pinned (OpenSpec.ofChange fnExactCountSlidWrong)

/-- 'laws.FnExactFewestSlides': WHATEVER THE INPUT: true; the input reads as it did. -/
def fnExactFewestSlidesSpec : ChangeSpec := { name := "fnExactFewestSlides", fn := fun _ => fun
  | [d1, d2, d3] => { results := [.lit (.bool true)], args := [d1, d2, d3] }
  | _ => none }
def fnExactFewestSlidesRow : OpenClaim := { program := "ytejkogiiocbmfaa", sum := "cd19a4129c385ecf0d484607e9e83c824e1c3855ce432c51479681fe1ea52f76", func := "loop.example/g01314/laws.FnExactFewestSlides", spec := "fnExactFewestSlides", unfollowed := true, recurses := true, apart := false }
def FnExactFewestSlidesSaid : Prop := fnExactFewestSlidesRow.holds Try.pinned (OpenSpec.ofChange fnExactFewestSlidesSpec)

/-- ITS FALSE NEIGHBOUR: 'it returns false'. Refute it at one input. -/
def fnExactFewestSlidesWrong : ChangeSpec := { name := "fnExactFewestSlides", fn := fun _ => fun
  | [d1, d2, d3] => { results := [.lit (.bool false)], args := [d1, d2, d3] }
  | _ => none }
def FnExactFewestSlidesWrongFalsely : Prop := fnExactFewestSlidesRow.holds Try.pinned (OpenSpec.ofChange fnExactFewestSlidesWrong)

/-- 'laws.FnExactSlidesOf': WHATEVER THE INPUT: true; the input reads as it did. -/
def fnExactSlidesOfSpec : ChangeSpec := { name := "fnExactSlidesOf", fn := fun _ => fun
  | [d1, d2] => { results := [.lit (.bool true)], args := [d1, d2] }
  | _ => none }
def fnExactSlidesOfRow : OpenClaim := { program := "ytejkogiiocbmfaa", sum := "cd19a4129c385ecf0d484607e9e83c824e1c3855ce432c51479681fe1ea52f76", func := "loop.example/g01314/laws.FnExactSlidesOf", spec := "fnExactSlidesOf", unfollowed := true, recurses := true, apart := false }
def FnExactSlidesOfSaid : Prop := fnExactSlidesOfRow.holds Try.pinned (OpenSpec.ofChange fnExactSlidesOfSpec)

/-- ITS FALSE NEIGHBOUR: 'it returns false'. Refute it at one input. -/
def fnExactSlidesOfWrong : ChangeSpec := { name := "fnExactSlidesOf", fn := fun _ => fun
  | [d1, d2] => { results := [.lit (.bool false)], args := [d1, d2] }
  | _ => none }
def FnExactSlidesOfWrongFalsely : Prop := fnExactSlidesOfRow.holds Try.pinned (OpenSpec.ofChange fnExactSlidesOfWrong)

/-- 'laws.FnExactFarthestSlid': WHATEVER THE INPUT: true; the input reads as it did. -/
def fnExactFarthestSlidSpec : ChangeSpec := { name := "fnExactFarthestSlid", fn := fun _ => fun
  | [d1, d2] => { results := [.lit (.bool true)], args := [d1, d2] }
  | _ => none }
def fnExactFarthestSlidRow : OpenClaim := { program := "ytejkogiiocbmfaa", sum := "cd19a4129c385ecf0d484607e9e83c824e1c3855ce432c51479681fe1ea52f76", func := "loop.example/g01314/laws.FnExactFarthestSlid", spec := "fnExactFarthestSlid", unfollowed := true, recurses := true, apart := false }
def FnExactFarthestSlidSaid : Prop := fnExactFarthestSlidRow.holds Try.pinned (OpenSpec.ofChange fnExactFarthestSlidSpec)

/-- ITS FALSE NEIGHBOUR: 'it returns false'. Refute it at one input. -/
def fnExactFarthestSlidWrong : ChangeSpec := { name := "fnExactFarthestSlid", fn := fun _ => fun
  | [d1, d2] => { results := [.lit (.bool false)], args := [d1, d2] }
  | _ => none }
def FnExactFarthestSlidWrongFalsely : Prop := fnExactFarthestSlidRow.holds Try.pinned (OpenSpec.ofChange fnExactFarthestSlidWrong)

/-- 'laws.FnExactCountSlideWays': WHATEVER THE INPUT: true; the input reads as it did. -/
def fnExactCountSlideWaysSpec : ChangeSpec := { name := "fnExactCountSlideWays", fn := fun _ => fun
  | [d1, d2, d3] => { results := [.lit (.bool true)], args := [d1, d2, d3] }
  | _ => none }
def fnExactCountSlideWaysRow : OpenClaim := { program := "ytejkogiiocbmfaa", sum := "cd19a4129c385ecf0d484607e9e83c824e1c3855ce432c51479681fe1ea52f76", func := "loop.example/g01314/laws.FnExactCountSlideWays", spec := "fnExactCountSlideWays", unfollowed := true, recurses := true, apart := false }
def FnExactCountSlideWaysSaid : Prop := fnExactCountSlideWaysRow.holds Try.pinned (OpenSpec.ofChange fnExactCountSlideWaysSpec)

/-- ITS FALSE NEIGHBOUR: 'it returns false'. Refute it at one input. -/
def fnExactCountSlideWaysWrong : ChangeSpec := { name := "fnExactCountSlideWays", fn := fun _ => fun
  | [d1, d2, d3] => { results := [.lit (.bool false)], args := [d1, d2, d3] }
  | _ => none }
def FnExactCountSlideWaysWrongFalsely : Prop := fnExactCountSlideWaysRow.holds Try.pinned (OpenSpec.ofChange fnExactCountSlideWaysWrong)

/-- 'laws.FnExactPartsOfBolts': WHATEVER THE INPUT: true; the input reads as it did. -/
def fnExactPartsOfBoltsSpec : ChangeSpec := { name := "fnExactPartsOfBolts", fn := fun _ => fun
  | [d] => { results := [.lit (.bool true)], args := [d] }
  | _ => none }
def fnExactPartsOfBoltsRow : OpenClaim := { program := "ytejkogiiocbmfaa", sum := "cd19a4129c385ecf0d484607e9e83c824e1c3855ce432c51479681fe1ea52f76", func := "loop.example/g01314/laws.FnExactPartsOfBolts", spec := "fnExactPartsOfBolts", unfollowed := true, recurses := true, apart := false }
def FnExactPartsOfBoltsSaid : Prop := fnExactPartsOfBoltsRow.holds Try.pinned (OpenSpec.ofChange fnExactPartsOfBoltsSpec)

/-- ITS FALSE NEIGHBOUR: 'it returns false'. Refute it at one input. -/
def fnExactPartsOfBoltsWrong : ChangeSpec := { name := "fnExactPartsOfBolts", fn := fun _ => fun
  | [d] => { results := [.lit (.bool false)], args := [d] }
  | _ => none }
def FnExactPartsOfBoltsWrongFalsely : Prop := fnExactPartsOfBoltsRow.holds Try.pinned (OpenSpec.ofChange fnExactPartsOfBoltsWrong)

/-- 'laws.FnExactFirstSlides': WHATEVER THE INPUT: true; the input reads as it did. -/
def fnExactFirstSlidesSpec : ChangeSpec := { name := "fnExactFirstSlides", fn := fun _ => fun
  | [d1, d2, d3] => { results := [.lit (.bool true)], args := [d1, d2, d3] }
  | _ => none }
def fnExactFirstSlidesRow : OpenClaim := { program := "ytejkogiiocbmfaa", sum := "cd19a4129c385ecf0d484607e9e83c824e1c3855ce432c51479681fe1ea52f76", func := "loop.example/g01314/laws.FnExactFirstSlides", spec := "fnExactFirstSlides", unfollowed := true, recurses := true, apart := false }
def FnExactFirstSlidesSaid : Prop := fnExactFirstSlidesRow.holds Try.pinned (OpenSpec.ofChange fnExactFirstSlidesSpec)

/-- ITS FALSE NEIGHBOUR: 'it returns false'. Refute it at one input. -/
def fnExactFirstSlidesWrong : ChangeSpec := { name := "fnExactFirstSlides", fn := fun _ => fun
  | [d1, d2, d3] => { results := [.lit (.bool false)], args := [d1, d2, d3] }
  | _ => none }
def FnExactFirstSlidesWrongFalsely : Prop := fnExactFirstSlidesRow.holds Try.pinned (OpenSpec.ofChange fnExactFirstSlidesWrong)

/-- 'laws.FnBoltsSlideOfAll': WHATEVER THE INPUT: true; the input reads as it did. -/
def fnBoltsSlideOfAllSpec : ChangeSpec := { name := "fnBoltsSlideOfAll", fn := fun _ => fun
  | [d1, d2, d3, d4, d5, d6, d7, d8] => { results := [.lit (.bool true)], args := [d1, d2, d3, d4, d5, d6, d7, d8] }
  | _ => none }
def fnBoltsSlideOfAllRow : OpenClaim := { program := "ytejkogiiocbmfaa", sum := "cd19a4129c385ecf0d484607e9e83c824e1c3855ce432c51479681fe1ea52f76", func := "loop.example/g01314/laws.FnBoltsSlideOfAll", spec := "fnBoltsSlideOfAll", unfollowed := true, recurses := true, apart := false }
def FnBoltsSlideOfAllSaid : Prop := fnBoltsSlideOfAllRow.holds Try.pinned (OpenSpec.ofChange fnBoltsSlideOfAllSpec)

/-- ITS FALSE NEIGHBOUR: 'it returns false'. Refute it at one input. -/
def fnBoltsSlideOfAllWrong : ChangeSpec := { name := "fnBoltsSlideOfAll", fn := fun _ => fun
  | [d1, d2, d3, d4, d5, d6, d7, d8] => { results := [.lit (.bool false)], args := [d1, d2, d3, d4, d5, d6, d7, d8] }
  | _ => none }
def FnBoltsSlideOfAllWrongFalsely : Prop := fnBoltsSlideOfAllRow.holds Try.pinned (OpenSpec.ofChange fnBoltsSlideOfAllWrong)

/-- 'laws.FnBoltsSlide': WHATEVER THE INPUT: true; the input reads as it did. -/
def fnBoltsSlideSpec : ChangeSpec := { name := "fnBoltsSlide", fn := fun _ => fun
  | [d1, d2] => { results := [.lit (.bool true)], args := [d1, d2] }
  | _ => none }
def fnBoltsSlideRow : OpenClaim := { program := "ytejkogiiocbmfaa", sum := "cd19a4129c385ecf0d484607e9e83c824e1c3855ce432c51479681fe1ea52f76", func := "loop.example/g01314/laws.FnBoltsSlide", spec := "fnBoltsSlide", unfollowed := true, recurses := true, apart := false }
def FnBoltsSlideSaid : Prop := fnBoltsSlideRow.holds Try.pinned (OpenSpec.ofChange fnBoltsSlideSpec)

/-- ITS FALSE NEIGHBOUR: 'it returns false'. Refute it at one input. -/
def fnBoltsSlideWrong : ChangeSpec := { name := "fnBoltsSlide", fn := fun _ => fun
  | [d1, d2] => { results := [.lit (.bool false)], args := [d1, d2] }
  | _ => none }
def FnBoltsSlideWrongFalsely : Prop := fnBoltsSlideRow.holds Try.pinned (OpenSpec.ofChange fnBoltsSlideWrong)

/- THE SECOND FORM. 'bulk': how many values and letters a reading holds, each counted each time it is reached (what is shared counts as often as it is met; a slice's spare places count too). A statement '..UptoSaid' is the law's where the arguments, and the package variables that the reading takes, are together of bulk at most 1048576: NARROWER than '..Said'. Prove '..Said' where nothing that the law and all that it calls make is longer than what came in: it says more and counts as full. Else prove '..UptoSaid'. A law counts once. -/
mutual
def uptoBulk {H : Type} : DataW H → Nat
  | .lit (.string bytes) => bytes.length + 1
  | .lit _ => 1
  | .nil => 1
  | .ptr d => uptoBulk d + 1
  | .slice elems spare => uptoBulkAll elems + uptoBulkAll spare + 1
  | .agg parts => uptoBulkAll parts + 1
  | .iface _ d => uptoBulk d + 1
  | .map entries => uptoBulkEntries entries + 1
  | .held _ => 1
def uptoBulkAll {H : Type} : List (DataW H) → Nat
  | [] => 0
  | d :: r => uptoBulk d + uptoBulkAll r
def uptoBulkEntries {H : Type} : List (Lit × DataW H) → Nat
  | [] => 0
  | x :: r => uptoBulkEntry x + uptoBulkEntries r
def uptoBulkEntry {H : Type} : Lit × DataW H → Nat
  | (.string bytes, d) => bytes.length + uptoBulk d + 1
  | (_, d) => uptoBulk d + 1
 end
def uptoSmall : (H : Type) → List (DataW H) → Bool := fun _ ds => decide (uptoBulkAll ds ≤ 1048576)
def OpenSpec.upto (s : _root_.Go.ChangeSpec) : _root_.Go.OpenSpec := { _root_.Go.OpenSpec.ofChange s with cond := some uptoSmall }

/-- 'laws.FnExactSlideBolt', WHERE WHAT IT READS IS OF BULK AT MOST 1048576: true; the input reads as it did. -/
def fnExactSlideBoltUptoRow : OpenClaim := { program := "ytejkogiiocbmfaa", sum := "cd19a4129c385ecf0d484607e9e83c824e1c3855ce432c51479681fe1ea52f76", func := "loop.example/g01314/laws.FnExactSlideBolt", spec := "fnExactSlideBolt", unfollowed := true, recurses := true, apart := false, narrowed := true }
def FnExactSlideBoltUptoSaid : Prop := fnExactSlideBoltUptoRow.holds Try.pinned (OpenSpec.upto fnExactSlideBoltSpec)

/-- 'laws.FnExactCountSlid', WHERE WHAT IT READS IS OF BULK AT MOST 1048576: true; the input reads as it did. -/
def fnExactCountSlidUptoRow : OpenClaim := { program := "ytejkogiiocbmfaa", sum := "cd19a4129c385ecf0d484607e9e83c824e1c3855ce432c51479681fe1ea52f76", func := "loop.example/g01314/laws.FnExactCountSlid", spec := "fnExactCountSlid", unfollowed := true, recurses := true, apart := false, narrowed := true }
def FnExactCountSlidUptoSaid : Prop := fnExactCountSlidUptoRow.holds Try.pinned (OpenSpec.upto fnExactCountSlidSpec)

/-- 'laws.FnExactFewestSlides', WHERE WHAT IT READS IS OF BULK AT MOST 1048576: true; the input reads as it did. -/
def fnExactFewestSlidesUptoRow : OpenClaim := { program := "ytejkogiiocbmfaa", sum := "cd19a4129c385ecf0d484607e9e83c824e1c3855ce432c51479681fe1ea52f76", func := "loop.example/g01314/laws.FnExactFewestSlides", spec := "fnExactFewestSlides", unfollowed := true, recurses := true, apart := false, narrowed := true }
def FnExactFewestSlidesUptoSaid : Prop := fnExactFewestSlidesUptoRow.holds Try.pinned (OpenSpec.upto fnExactFewestSlidesSpec)

/-- 'laws.FnExactSlidesOf', WHERE WHAT IT READS IS OF BULK AT MOST 1048576: true; the input reads as it did. -/
def fnExactSlidesOfUptoRow : OpenClaim := { program := "ytejkogiiocbmfaa", sum := "cd19a4129c385ecf0d484607e9e83c824e1c3855ce432c51479681fe1ea52f76", func := "loop.example/g01314/laws.FnExactSlidesOf", spec := "fnExactSlidesOf", unfollowed := true, recurses := true, apart := false, narrowed := true }
def FnExactSlidesOfUptoSaid : Prop := fnExactSlidesOfUptoRow.holds Try.pinned (OpenSpec.upto fnExactSlidesOfSpec)

/-- 'laws.FnExactFarthestSlid', WHERE WHAT IT READS IS OF BULK AT MOST 1048576: true; the input reads as it did. -/
def fnExactFarthestSlidUptoRow : OpenClaim := { program := "ytejkogiiocbmfaa", sum := "cd19a4129c385ecf0d484607e9e83c824e1c3855ce432c51479681fe1ea52f76", func := "loop.example/g01314/laws.FnExactFarthestSlid", spec := "fnExactFarthestSlid", unfollowed := true, recurses := true, apart := false, narrowed := true }
def FnExactFarthestSlidUptoSaid : Prop := fnExactFarthestSlidUptoRow.holds Try.pinned (OpenSpec.upto fnExactFarthestSlidSpec)

/-- 'laws.FnExactCountSlideWays', WHERE WHAT IT READS IS OF BULK AT MOST 1048576: true; the input reads as it did. -/
def fnExactCountSlideWaysUptoRow : OpenClaim := { program := "ytejkogiiocbmfaa", sum := "cd19a4129c385ecf0d484607e9e83c824e1c3855ce432c51479681fe1ea52f76", func := "loop.example/g01314/laws.FnExactCountSlideWays", spec := "fnExactCountSlideWays", unfollowed := true, recurses := true, apart := false, narrowed := true }
def FnExactCountSlideWaysUptoSaid : Prop := fnExactCountSlideWaysUptoRow.holds Try.pinned (OpenSpec.upto fnExactCountSlideWaysSpec)

/-- 'laws.FnExactPartsOfBolts', WHERE WHAT IT READS IS OF BULK AT MOST 1048576: true; the input reads as it did. -/
def fnExactPartsOfBoltsUptoRow : OpenClaim := { program := "ytejkogiiocbmfaa", sum := "cd19a4129c385ecf0d484607e9e83c824e1c3855ce432c51479681fe1ea52f76", func := "loop.example/g01314/laws.FnExactPartsOfBolts", spec := "fnExactPartsOfBolts", unfollowed := true, recurses := true, apart := false, narrowed := true }
def FnExactPartsOfBoltsUptoSaid : Prop := fnExactPartsOfBoltsUptoRow.holds Try.pinned (OpenSpec.upto fnExactPartsOfBoltsSpec)

/-- 'laws.FnExactFirstSlides', WHERE WHAT IT READS IS OF BULK AT MOST 1048576: true; the input reads as it did. -/
def fnExactFirstSlidesUptoRow : OpenClaim := { program := "ytejkogiiocbmfaa", sum := "cd19a4129c385ecf0d484607e9e83c824e1c3855ce432c51479681fe1ea52f76", func := "loop.example/g01314/laws.FnExactFirstSlides", spec := "fnExactFirstSlides", unfollowed := true, recurses := true, apart := false, narrowed := true }
def FnExactFirstSlidesUptoSaid : Prop := fnExactFirstSlidesUptoRow.holds Try.pinned (OpenSpec.upto fnExactFirstSlidesSpec)

/-- 'laws.FnBoltsSlideOfAll', WHERE WHAT IT READS IS OF BULK AT MOST 1048576: true; the input reads as it did. -/
def fnBoltsSlideOfAllUptoRow : OpenClaim := { program := "ytejkogiiocbmfaa", sum := "cd19a4129c385ecf0d484607e9e83c824e1c3855ce432c51479681fe1ea52f76", func := "loop.example/g01314/laws.FnBoltsSlideOfAll", spec := "fnBoltsSlideOfAll", unfollowed := true, recurses := true, apart := false, narrowed := true }
def FnBoltsSlideOfAllUptoSaid : Prop := fnBoltsSlideOfAllUptoRow.holds Try.pinned (OpenSpec.upto fnBoltsSlideOfAllSpec)

/-- 'laws.FnBoltsSlide', WHERE WHAT IT READS IS OF BULK AT MOST 1048576: true; the input reads as it did. -/
def fnBoltsSlideUptoRow : OpenClaim := { program := "ytejkogiiocbmfaa", sum := "cd19a4129c385ecf0d484607e9e83c824e1c3855ce432c51479681fe1ea52f76", func := "loop.example/g01314/laws.FnBoltsSlide", spec := "fnBoltsSlide", unfollowed := true, recurses := true, apart := false, narrowed := true }
def FnBoltsSlideUptoSaid : Prop := fnBoltsSlideUptoRow.holds Try.pinned (OpenSpec.upto fnBoltsSlideSpec)

end Rows
end Go.Proofs.Ytejkogiiocbmfaa
