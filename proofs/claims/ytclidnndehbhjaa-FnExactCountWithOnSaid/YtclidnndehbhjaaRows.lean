/-
  No cell of these rows narrows 'for every input' (looked for: loops, veiled, ifaces, maps, wideKeys, modest, calm, conditions, laid).
  DERIVED. THE GIVEN ROWS OF THIS SEAT. 3 by the template 'for every input the law returns true; each argument reads behind the call as it read before'; 0 by the template 'total and deterministic' (their statements: YtclidnndehbhjaaTotals.lean).
  GIVEN WITH THE SEED: the statements are not yours to turn. If you find one false, say at which input.
  Laid BY PROGRAM, IN A SANDBOX (cutbox-rows.mjs): the forced cells as the released guide's own fill.sh prints them over the translation c9c2f905b63e82fe… (all of the seat's roots in one cut). By AI agents, Wed Nov 11 2026. No macro, syntax, notation, axiom, sorry.
-/
import Derived.Test.YtclidnndehbhjaaChecked
import GoSem.Claim
import GoSem.ClaimJoined
import GoSem.ClaimMapViews
import Derived.JoinedTies
import Derived.KernelRfl
namespace Go.Proofs.Ytclidnndehbhjaa
/- THE CELL 'sum', in the pinned program and in every row, IS THE sha256 OF THE DUMP (.gsa) THAT YtclidnndehbhjaaProg.lean LOADS. Nothing in Lean hashes anything: it is a label: what it is worth is what the hold of that sum in a sandbox is worth. -/
noncomputable def Try.pinned : Pinned := { name := "ytclidnndehbhjaa", sum := "c9c2f905b63e82feec01f74a5c92e04b832947eb2c8af269fe290cc0d84ad152", checked := Try.checked }
namespace Rows
def none {H : Type} : Left H := { results := [], args := [] }

/-- 'laws.FnExactMeanNumber': WHATEVER THE INPUT: true; the input reads as it did. -/
def fnExactMeanNumberSpec : ChangeSpec := { name := "fnExactMeanNumber", fn := fun _ => fun
  | [d] => { results := [.lit (.bool true)], args := [d] }
  | _ => none }
def fnExactMeanNumberRow : OpenClaim := { program := "ytclidnndehbhjaa", sum := "c9c2f905b63e82feec01f74a5c92e04b832947eb2c8af269fe290cc0d84ad152", func := "loop.example/g01314/laws.FnExactMeanNumber", spec := "fnExactMeanNumber", apart := false }
def FnExactMeanNumberSaid : Prop := fnExactMeanNumberRow.holds Try.pinned (OpenSpec.ofChange fnExactMeanNumberSpec)

/-- ITS FALSE NEIGHBOUR: 'it returns false'. Refute it at one input. -/
def fnExactMeanNumberWrong : ChangeSpec := { name := "fnExactMeanNumber", fn := fun _ => fun
  | [d] => { results := [.lit (.bool false)], args := [d] }
  | _ => none }
def FnExactMeanNumberWrongFalsely : Prop := fnExactMeanNumberRow.holds Try.pinned (OpenSpec.ofChange fnExactMeanNumberWrong)

/-- 'laws.FnExactMeanOfPairs': WHATEVER THE INPUT: true; the input reads as it did. -/
def fnExactMeanOfPairsSpec : ChangeSpec := { name := "fnExactMeanOfPairs", fn := fun _ => fun
  | [d] => { results := [.lit (.bool true)], args := [d] }
  | _ => none }
def fnExactMeanOfPairsRow : OpenClaim := { program := "ytclidnndehbhjaa", sum := "c9c2f905b63e82feec01f74a5c92e04b832947eb2c8af269fe290cc0d84ad152", func := "loop.example/g01314/laws.FnExactMeanOfPairs", spec := "fnExactMeanOfPairs", apart := false }
def FnExactMeanOfPairsSaid : Prop := fnExactMeanOfPairsRow.holds Try.pinned (OpenSpec.ofChange fnExactMeanOfPairsSpec)

/-- ITS FALSE NEIGHBOUR: 'it returns false'. Refute it at one input. -/
def fnExactMeanOfPairsWrong : ChangeSpec := { name := "fnExactMeanOfPairs", fn := fun _ => fun
  | [d] => { results := [.lit (.bool false)], args := [d] }
  | _ => none }
def FnExactMeanOfPairsWrongFalsely : Prop := fnExactMeanOfPairsRow.holds Try.pinned (OpenSpec.ofChange fnExactMeanOfPairsWrong)

/-- 'laws.FnExactCountWithOn': WHATEVER THE INPUT: true; the input reads as it did. -/
def fnExactCountWithOnSpec : ChangeSpec := { name := "fnExactCountWithOn", fn := fun _ => fun
  | [d1, d2] => { results := [.lit (.bool true)], args := [d1, d2] }
  | _ => none }
def fnExactCountWithOnRow : OpenClaim := { program := "ytclidnndehbhjaa", sum := "c9c2f905b63e82feec01f74a5c92e04b832947eb2c8af269fe290cc0d84ad152", func := "loop.example/g01314/laws.FnExactCountWithOn", spec := "fnExactCountWithOn", apart := false }
def FnExactCountWithOnSaid : Prop := fnExactCountWithOnRow.holds Try.pinned (OpenSpec.ofChange fnExactCountWithOnSpec)

/-- ITS FALSE NEIGHBOUR: 'it returns false'. Refute it at one input. -/
def fnExactCountWithOnWrong : ChangeSpec := { name := "fnExactCountWithOn", fn := fun _ => fun
  | [d1, d2] => { results := [.lit (.bool false)], args := [d1, d2] }
  | _ => none }
def FnExactCountWithOnWrongFalsely : Prop := fnExactCountWithOnRow.holds Try.pinned (OpenSpec.ofChange fnExactCountWithOnWrong)

/- THE SECOND FORM. 'bulk': how many values and letters a reading holds, each counted each time it is reached (what is shared counts as often as it is met; a slice's spare places count too). A statement '..UptoSaid' is the law's where the arguments, and the package variables that the reading takes, are together of bulk at most 1048576: NARROWER than '..Said'. Prove '..Said' where nothing that the law and all that it calls make is longer than what came in: it says more and counts as full. Else prove '..UptoSaid'. A law counts once. -/
mutual
def uptoBulk {H : Type} : DataW H → Nat
  | .lit (.string bytes) => bytes.length + 1
  | .lit _ => 1
  | .nil => 1
  | .ptr d => uptoBulk d + 1
  | .slice elems spare => uptoBulkAll elems + uptoBulkAll spare + 1
  | .agg parts => uptoBulkAll parts + 1
  | .iface _ d => uptoBulk d + 1
  | .map entries => uptoBulkEntries entries + 1
  | .held _ => 1
def uptoBulkAll {H : Type} : List (DataW H) → Nat
  | [] => 0
  | d :: r => uptoBulk d + uptoBulkAll r
def uptoBulkEntries {H : Type} : List (Lit × DataW H) → Nat
  | [] => 0
  | x :: r => uptoBulkEntry x + uptoBulkEntries r
def uptoBulkEntry {H : Type} : Lit × DataW H → Nat
  | (.string bytes, d) => bytes.length + uptoBulk d + 1
  | (_, d) => uptoBulk d + 1
 end
def uptoSmall : (H : Type) → List (DataW H) → Bool := fun _ ds => decide (uptoBulkAll ds ≤ 1048576)
def OpenSpec.upto (s : _root_.Go.ChangeSpec) : _root_.Go.OpenSpec := { _root_.Go.OpenSpec.ofChange s with cond := some uptoSmall }

/-- 'laws.FnExactMeanNumber', WHERE WHAT IT READS IS OF BULK AT MOST 1048576: true; the input reads as it did. -/
def fnExactMeanNumberUptoRow : OpenClaim := { program := "ytclidnndehbhjaa", sum := "c9c2f905b63e82feec01f74a5c92e04b832947eb2c8af269fe290cc0d84ad152", func := "loop.example/g01314/laws.FnExactMeanNumber", spec := "fnExactMeanNumber", apart := false, narrowed := true }
def FnExactMeanNumberUptoSaid : Prop := fnExactMeanNumberUptoRow.holds Try.pinned (OpenSpec.upto fnExactMeanNumberSpec)

/-- 'laws.FnExactMeanOfPairs', WHERE WHAT IT READS IS OF BULK AT MOST 1048576: true; the input reads as it did. -/
def fnExactMeanOfPairsUptoRow : OpenClaim := { program := "ytclidnndehbhjaa", sum := "c9c2f905b63e82feec01f74a5c92e04b832947eb2c8af269fe290cc0d84ad152", func := "loop.example/g01314/laws.FnExactMeanOfPairs", spec := "fnExactMeanOfPairs", apart := false, narrowed := true }
def FnExactMeanOfPairsUptoSaid : Prop := fnExactMeanOfPairsUptoRow.holds Try.pinned (OpenSpec.upto fnExactMeanOfPairsSpec)

/-- 'laws.FnExactCountWithOn', WHERE WHAT IT READS IS OF BULK AT MOST 1048576: true; the input reads as it did. -/
def fnExactCountWithOnUptoRow : OpenClaim := { program := "ytclidnndehbhjaa", sum := "c9c2f905b63e82feec01f74a5c92e04b832947eb2c8af269fe290cc0d84ad152", func := "loop.example/g01314/laws.FnExactCountWithOn", spec := "fnExactCountWithOn", apart := false, narrowed := true }
def FnExactCountWithOnUptoSaid : Prop := fnExactCountWithOnUptoRow.holds Try.pinned (OpenSpec.upto fnExactCountWithOnSpec)

end Rows
end Go.Proofs.Ytclidnndehbhjaa
