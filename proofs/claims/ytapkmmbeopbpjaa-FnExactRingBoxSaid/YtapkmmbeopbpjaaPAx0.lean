-- written by a program of this session's (wip/tools), over the kit's print
import Derived.Test.YtapkmmbeopbpjaaProg
import Derived.Below
import Derived.Deep.Draws
import Derived.Deep.AppendLies
import Derived.Maps.AppendAt
import Derived.OwnWalk
import Derived.Laws.BytesArg
import Derived.Laws.MakeOwn
import Derived.Laws.OwnMore
import Derived.Deep.OwnRows
import Derived.Tactics
import Derived.Lib.ConvBytes
import Derived.Laws.Slices
import Derived.WalkKit
import Derived.KernelRfl
import Derived.RowKit3
import Derived.Deep.LoopGhost
import Derived.Deep.QuietTactic
import Derived.BigQuiet
import Derived.WideLaws
import Derived.Deep.DeepCutAuto
import Derived.Deep.CutBlock
import Derived.Deep.RegionHeld3
import Derived.Laws.Rows
import Derived.Lib.AppendStr
import Derived.ArgAppend
import Derived.Laws.IdiomCopy
import Derived.OrdersHeld
import Derived.Laws.BitsLemmas
import Derived.RowKit
import Derived.Test.YtapkmmbeopbpjaaShelf
import Derived.Shelf.Abstract
import Derived.Lib.OthersKept
import Derived.Laws.CopyOwn
import Derived.Test.YtapkmmbeopbpjaaWWords
import Derived.Test.YtapkmmbeopbpjaaWLast
import Derived.Test.YtapkmmbeopbpjaaWTab
import Derived.Test.YtapkmmbeopbpjaaWFour
import Derived.Test.YtapkmmbeopbpjaaWQPut
import Derived.Test.YtapkmmbeopbpjaaWApart
import Derived.Test.YtapkmmbeopbpjaaWArr
import Derived.Test.YtapkmmbeopbpjaaWZeros
import Derived.Test.YtapkmmbeopbpjaaWFoot
import Derived.Test.YtapkmmbeopbpjaaWKept
import Derived.Test.YtapkmmbeopbpjaaWShare
import Derived.Test.YtapkmmbeopbpjaaWN
import Derived.Test.YtapkmmbeopbpjaaWFootNe
import Derived.Test.YtapkmmbeopbpjaaWAt
import Derived.Test.YtapkmmbeopbpjaaWEqStruct
import Derived.Test.YtapkmmbeopbpjaaWRepsOne
import Derived.Test.YtapkmmbeopbpjaaWInv
import Derived.Test.YtapkmmbeopbpjaaWInvWords
import Derived.Test.YtapkmmbeopbpjaaWGuard
import Derived.Test.YtapkmmbeopbpjaaWNEv
import Derived.Test.YtapkmmbeopbpjaaWMore
namespace Go.Proofs.Ytapkmmbeopbpjaa.PA
open Go.RowKit Go.Proofs.YtapkmmbeopbpjaaW.PrintWords Go.Proofs.YtapkmmbeopbpjaaW.PrintLast Go.Proofs.YtapkmmbeopbpjaaW.PrintMore
attribute [local go_sem] max2_int min2_int max_two min_two max_three min_three max_four min_four   -- for this text's walks alone
set_option linter.unusedVariables false
set_option linter.unusedSimpArgs false



def errW : Option Int → Value
  | none => .nilIface
  | some c => .iface 0 (.int .i64 c)
theorem errW_none : errW none = .nilIface := rfl
theorem errW_some (c : Int) : errW (some c) = .iface 0 (.int .i64 c) := rfl

theorem info3 : (Try.prog.info? 3).map (fun i => (i.zero, i.size, i.bytes)) = some (some (.int .i64 0), 1, 8) := by kernel_rfl
theorem info5 : (Try.prog.info? 5).map (fun i => (i.zero, i.size, i.bytes)) = some (some (.int .u8 0), 1, 1) := by kernel_rfl
theorem info9 : (Try.prog.info? 9).map (fun i => (i.zero, i.size, i.bytes)) = some (some (.string ⟨#[]⟩), 1, 16) := by kernel_rfl
-- the values' own types

end Go.Proofs.Ytapkmmbeopbpjaa.PA
