-- written by a program of this session's (wip/tools), over the kit's print
import Derived.Test.YthjkjlfobgegpaaDoorProg
import Derived.Below
import Derived.Deep.Draws
import Derived.Deep.AppendLies
import Derived.Maps.AppendAt
import Derived.OwnWalk
import Derived.Laws.BytesArg
import Derived.Laws.MakeOwn
import Derived.Laws.OwnMore
import Derived.Deep.OwnRows
import Derived.Tactics
import Derived.Lib.ConvBytes
import Derived.Laws.Slices
import Derived.WalkKit
import Derived.KernelRfl
import Derived.RowKit3
import Derived.Deep.LoopGhost
import Derived.Deep.QuietTactic
import Derived.BigQuiet
import Derived.WideLaws
import Derived.Deep.DeepCutAuto
import Derived.Deep.CutBlock
import Derived.Deep.RegionHeld3
import Derived.Laws.Rows
import Derived.Lib.AppendStr
import Derived.ArgAppend
import Derived.Laws.IdiomCopy
import Derived.OrdersHeld
import Derived.Laws.BitsLemmas
import Derived.RowKit
import Derived.Test.YthjkjlfobgegpaaDoorShelf
import Derived.Test.YthjkjlfobgegpaaDoorLibOne
import Derived.Shelf.Abstract
import Derived.Lib.OthersKept
import Derived.Test.YthjkjlfobgegpaaDoorWWords
import Derived.Test.YthjkjlfobgegpaaDoorWLast
import Derived.Test.YthjkjlfobgegpaaDoorWTab
import Derived.Test.YthjkjlfobgegpaaDoorWFour
import Derived.Test.YthjkjlfobgegpaaDoorWQPut
import Derived.Test.YthjkjlfobgegpaaDoorWApart
import Derived.Test.YthjkjlfobgegpaaDoorWArr
import Derived.Test.YthjkjlfobgegpaaDoorWZeros
import Derived.Test.YthjkjlfobgegpaaDoorWFoot
import Derived.Test.YthjkjlfobgegpaaDoorWKept
import Derived.Test.YthjkjlfobgegpaaDoorWShare
import Derived.Test.YthjkjlfobgegpaaDoorWN
import Derived.Test.YthjkjlfobgegpaaDoorWFootNe
import Derived.Test.YthjkjlfobgegpaaDoorWAt
import Derived.Test.YthjkjlfobgegpaaDoorWEqStruct
import Derived.Test.YthjkjlfobgegpaaDoorWRepsOne
import Derived.Test.YthjkjlfobgegpaaDoorWInv
import Derived.Test.YthjkjlfobgegpaaDoorWInvWords
import Derived.Test.YthjkjlfobgegpaaDoorWGuard
import Derived.Test.YthjkjlfobgegpaaDoorWNEv
import Derived.Test.YthjkjlfobgegpaaDoorWMore
namespace Go.Proofs.YthjkjlfobgegpaaDoor.PK
open Go.RowKit Go.Proofs.YthjkjlfobgegpaaDoorW.PrintWords Go.Proofs.YthjkjlfobgegpaaDoorW.PrintLast Go.Proofs.YthjkjlfobgegpaaDoorW.PrintMore
attribute [local go_sem] max2_int min2_int max_two min_two max_three min_three max_four min_four   -- for this text's walks alone
set_option linter.unusedVariables false
set_option linter.unusedSimpArgs false



def errW : Option Int → Value
  | none => .nilIface
  | some c => .iface 0 (.int .i64 c)
theorem errW_none : errW none = .nilIface := rfl
theorem errW_some (c : Int) : errW (some c) = .iface 0 (.int .i64 c) := rfl

theorem info5 : (Tryd.prog.info? 5).map (fun i => (i.zero, i.size, i.bytes)) = some (some (.int .u8 0), 1, 1) := by kernel_rfl
theorem info9 : (Tryd.prog.info? 9).map (fun i => (i.zero, i.size, i.bytes)) = some (some (.string ⟨#[]⟩), 1, 16) := by kernel_rfl
-- the values' own types

end Go.Proofs.YthjkjlfobgegpaaDoor.PK
