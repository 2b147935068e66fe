/-
  No cell of these rows narrows 'for every input' (looked for: loops, veiled, ifaces, maps, wideKeys, modest, calm, conditions, laid).
  DERIVED. THE GIVEN ROWS OF THIS SEAT. 3 by the template 'for every input the law returns true; each argument reads behind the call as it read before'; 0 by the template 'total and deterministic' (their statements: YtapkmmbeopbpjaaTotals.lean).
  GIVEN WITH THE SEED: the statements are not yours to turn. If you find one false, say at which input.
  Laid BY PROGRAM, IN A SANDBOX (cutbox-rows.mjs): the forced cells as the released guide's own fill.sh prints them over the translation f21bac480875a02e… (all of the seat's roots in one cut). By AI agents, Wed Nov 11 2026. No macro, syntax, notation, axiom, sorry.
-/
import Derived.Test.YtapkmmbeopbpjaaChecked
import GoSem.Claim
import GoSem.ClaimJoined
import GoSem.ClaimMapViews
import Derived.JoinedTies
import Derived.KernelRfl
namespace Go.Proofs.Ytapkmmbeopbpjaa
/- THE CELL 'sum', in the pinned program and in every row, IS THE sha256 OF THE DUMP (.gsa) THAT YtapkmmbeopbpjaaProg.lean LOADS. Nothing in Lean hashes anything: it is a label: what it is worth is what the hold of that sum in a sandbox is worth. -/
noncomputable def Try.pinned : Pinned := { name := "ytapkmmbeopbpjaa", sum := "f21bac480875a02e1411275d76bf7931f8b6613c75d6d2d8be6f65f41a91df6e", checked := Try.checked }
namespace Rows
def none {H : Type} : Left H := { results := [], args := [] }

/-- 'laws.FnExactFreeBox': WHATEVER THE INPUT: true; the input reads as it did. -/
def fnExactFreeBoxSpec : ChangeSpec := { name := "fnExactFreeBox", fn := fun _ => fun
  | [d1, d2] => { results := [.lit (.bool true)], args := [d1, d2] }
  | _ => none }
def fnExactFreeBoxRow : OpenClaim := { program := "ytapkmmbeopbpjaa", sum := "f21bac480875a02e1411275d76bf7931f8b6613c75d6d2d8be6f65f41a91df6e", func := "loop.example/g01314/laws.FnExactFreeBox", spec := "fnExactFreeBox", inPlace := ["internal/abi.NoEscape", "internal/bytealg.MakeNoZero"], unfollowed := true, recurses := true, apart := false }
def FnExactFreeBoxSaid : Prop := fnExactFreeBoxRow.holds Try.pinned (OpenSpec.ofChange fnExactFreeBoxSpec)

/-- ITS FALSE NEIGHBOUR: 'it returns false'. Refute it at one input. -/
def fnExactFreeBoxWrong : ChangeSpec := { name := "fnExactFreeBox", fn := fun _ => fun
  | [d1, d2] => { results := [.lit (.bool false)], args := [d1, d2] }
  | _ => none }
def FnExactFreeBoxWrongFalsely : Prop := fnExactFreeBoxRow.holds Try.pinned (OpenSpec.ofChange fnExactFreeBoxWrong)

/-- 'laws.FnExactRingBox': WHATEVER THE INPUT: true; the input reads as it did. -/
def fnExactRingBoxSpec : ChangeSpec := { name := "fnExactRingBox", fn := fun _ => fun
  | [d] => { results := [.lit (.bool true)], args := [d] }
  | _ => none }
def fnExactRingBoxRow : OpenClaim := { program := "ytapkmmbeopbpjaa", sum := "f21bac480875a02e1411275d76bf7931f8b6613c75d6d2d8be6f65f41a91df6e", func := "loop.example/g01314/laws.FnExactRingBox", spec := "fnExactRingBox", inPlace := ["internal/abi.NoEscape", "internal/bytealg.MakeNoZero"], unfollowed := true, recurses := true, apart := false }
def FnExactRingBoxSaid : Prop := fnExactRingBoxRow.holds Try.pinned (OpenSpec.ofChange fnExactRingBoxSpec)

/-- ITS FALSE NEIGHBOUR: 'it returns false'. Refute it at one input. -/
def fnExactRingBoxWrong : ChangeSpec := { name := "fnExactRingBox", fn := fun _ => fun
  | [d] => { results := [.lit (.bool false)], args := [d] }
  | _ => none }
def FnExactRingBoxWrongFalsely : Prop := fnExactRingBoxRow.holds Try.pinned (OpenSpec.ofChange fnExactRingBoxWrong)

/-- 'laws.FnExactStairBox': WHATEVER THE INPUT: true; the input reads as it did. -/
def fnExactStairBoxSpec : ChangeSpec := { name := "fnExactStairBox", fn := fun _ => fun
  | [d1, d2] => { results := [.lit (.bool true)], args := [d1, d2] }
  | _ => none }
def fnExactStairBoxRow : OpenClaim := { program := "ytapkmmbeopbpjaa", sum := "f21bac480875a02e1411275d76bf7931f8b6613c75d6d2d8be6f65f41a91df6e", func := "loop.example/g01314/laws.FnExactStairBox", spec := "fnExactStairBox", inPlace := ["internal/abi.NoEscape", "internal/bytealg.MakeNoZero"], unfollowed := true, recurses := true, apart := false }
def FnExactStairBoxSaid : Prop := fnExactStairBoxRow.holds Try.pinned (OpenSpec.ofChange fnExactStairBoxSpec)

/-- ITS FALSE NEIGHBOUR: 'it returns false'. Refute it at one input. -/
def fnExactStairBoxWrong : ChangeSpec := { name := "fnExactStairBox", fn := fun _ => fun
  | [d1, d2] => { results := [.lit (.bool false)], args := [d1, d2] }
  | _ => none }
def FnExactStairBoxWrongFalsely : Prop := fnExactStairBoxRow.holds Try.pinned (OpenSpec.ofChange fnExactStairBoxWrong)

/- THE SECOND FORM. 'bulk': how many values and letters a reading holds, each counted each time it is reached (what is shared counts as often as it is met; a slice's spare places count too). A statement '..UptoSaid' is the law's where the arguments, and the package variables that the reading takes, are together of bulk at most 1048576: NARROWER than '..Said'. Prove '..Said' where nothing that the law and all that it calls make is longer than what came in: it says more and counts as full. Else prove '..UptoSaid'. A law counts once. -/
mutual
def uptoBulk {H : Type} : DataW H → Nat
  | .lit (.string bytes) => bytes.length + 1
  | .lit _ => 1
  | .nil => 1
  | .ptr d => uptoBulk d + 1
  | .slice elems spare => uptoBulkAll elems + uptoBulkAll spare + 1
  | .agg parts => uptoBulkAll parts + 1
  | .iface _ d => uptoBulk d + 1
  | .map entries => uptoBulkEntries entries + 1
  | .held _ => 1
def uptoBulkAll {H : Type} : List (DataW H) → Nat
  | [] => 0
  | d :: r => uptoBulk d + uptoBulkAll r
def uptoBulkEntries {H : Type} : List (Lit × DataW H) → Nat
  | [] => 0
  | x :: r => uptoBulkEntry x + uptoBulkEntries r
def uptoBulkEntry {H : Type} : Lit × DataW H → Nat
  | (.string bytes, d) => bytes.length + uptoBulk d + 1
  | (_, d) => uptoBulk d + 1
 end
def uptoSmall : (H : Type) → List (DataW H) → Bool := fun _ ds => decide (uptoBulkAll ds ≤ 1048576)
def OpenSpec.upto (s : _root_.Go.ChangeSpec) : _root_.Go.OpenSpec := { _root_.Go.OpenSpec.ofChange s with cond := some uptoSmall }

/-- 'laws.FnExactFreeBox', WHERE WHAT IT READS IS OF BULK AT MOST 1048576: true; the input reads as it did. -/
def fnExactFreeBoxUptoRow : OpenClaim := { program := "ytapkmmbeopbpjaa", sum := "f21bac480875a02e1411275d76bf7931f8b6613c75d6d2d8be6f65f41a91df6e", func := "loop.example/g01314/laws.FnExactFreeBox", spec := "fnExactFreeBox", inPlace := ["internal/abi.NoEscape", "internal/bytealg.MakeNoZero"], unfollowed := true, recurses := true, apart := false, narrowed := true }
def FnExactFreeBoxUptoSaid : Prop := fnExactFreeBoxUptoRow.holds Try.pinned (OpenSpec.upto fnExactFreeBoxSpec)

/-- 'laws.FnExactRingBox', WHERE WHAT IT READS IS OF BULK AT MOST 1048576: true; the input reads as it did. -/
def fnExactRingBoxUptoRow : OpenClaim := { program := "ytapkmmbeopbpjaa", sum := "f21bac480875a02e1411275d76bf7931f8b6613c75d6d2d8be6f65f41a91df6e", func := "loop.example/g01314/laws.FnExactRingBox", spec := "fnExactRingBox", inPlace := ["internal/abi.NoEscape", "internal/bytealg.MakeNoZero"], unfollowed := true, recurses := true, apart := false, narrowed := true }
def FnExactRingBoxUptoSaid : Prop := fnExactRingBoxUptoRow.holds Try.pinned (OpenSpec.upto fnExactRingBoxSpec)

/-- 'laws.FnExactStairBox', WHERE WHAT IT READS IS OF BULK AT MOST 1048576: true; the input reads as it did. -/
def fnExactStairBoxUptoRow : OpenClaim := { program := "ytapkmmbeopbpjaa", sum := "f21bac480875a02e1411275d76bf7931f8b6613c75d6d2d8be6f65f41a91df6e", func := "loop.example/g01314/laws.FnExactStairBox", spec := "fnExactStairBox", inPlace := ["internal/abi.NoEscape", "internal/bytealg.MakeNoZero"], unfollowed := true, recurses := true, apart := false, narrowed := true }
def FnExactStairBoxUptoSaid : Prop := fnExactStairBoxUptoRow.holds Try.pinned (OpenSpec.upto fnExactStairBoxSpec)

end Rows
end Go.Proofs.Ytapkmmbeopbpjaa
