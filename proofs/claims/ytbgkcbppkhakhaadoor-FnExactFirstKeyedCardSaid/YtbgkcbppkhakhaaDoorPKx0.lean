-- written by a program of this session's (wip/tools), over the kit's print
import Derived.Test.YtbgkcbppkhakhaaDoorProg
import Derived.Below
import Derived.Deep.Draws
import Derived.Deep.AppendLies
import Derived.Maps.AppendAt
import Derived.OwnWalk
import Derived.Laws.BytesArg
import Derived.Laws.MakeOwn
import Derived.Laws.OwnMore
import Derived.Deep.OwnRows
import Derived.Tactics
import Derived.Lib.ConvBytes
import Derived.Laws.Slices
import Derived.WalkKit
import Derived.KernelRfl
import Derived.RowKit3
import Derived.Deep.LoopGhost
import Derived.Deep.QuietTactic
import Derived.BigQuiet
import Derived.WideLaws
import Derived.Deep.DeepCutAuto
import Derived.Deep.CutBlock
import Derived.Deep.RegionHeld3
import Derived.Laws.Rows
import Derived.Lib.AppendStr
import Derived.ArgAppend
import Derived.Laws.IdiomCopy
import Derived.OrdersHeld
import Derived.Laws.BitsLemmas
import Derived.RowKit
import Derived.Test.YtbgkcbppkhakhaaDoorShelf
import Derived.Shelf.Abstract
import Derived.Lib.OthersKept
import Derived.Test.YtbgkcbppkhakhaaDoorMapS
import Derived.Test.YtbgkcbppkhakhaaDoorWWords
import Derived.Test.YtbgkcbppkhakhaaDoorWLast
import Derived.Test.YtbgkcbppkhakhaaDoorWTab
import Derived.Test.YtbgkcbppkhakhaaDoorWFour
import Derived.Test.YtbgkcbppkhakhaaDoorWQPut
import Derived.Test.YtbgkcbppkhakhaaDoorWApart
import Derived.Test.YtbgkcbppkhakhaaDoorWArr
import Derived.Test.YtbgkcbppkhakhaaDoorWZeros
import Derived.Test.YtbgkcbppkhakhaaDoorWFoot
import Derived.Test.YtbgkcbppkhakhaaDoorWKept
import Derived.Test.YtbgkcbppkhakhaaDoorWShare
import Derived.Test.YtbgkcbppkhakhaaDoorWN
import Derived.Test.YtbgkcbppkhakhaaDoorWFootNe
import Derived.Test.YtbgkcbppkhakhaaDoorWAt
import Derived.Test.YtbgkcbppkhakhaaDoorWEqStruct
import Derived.Test.YtbgkcbppkhakhaaDoorWRepsOne
import Derived.Test.YtbgkcbppkhakhaaDoorWInv
import Derived.Test.YtbgkcbppkhakhaaDoorWInvWords
import Derived.Test.YtbgkcbppkhakhaaDoorWGuard
import Derived.Test.YtbgkcbppkhakhaaDoorWNEv
import Derived.Test.YtbgkcbppkhakhaaDoorWMore
namespace Go.Proofs.YtbgkcbppkhakhaaDoor.PK
open Go.RowKit Go.Proofs.YtbgkcbppkhakhaaDoorW.PrintWords Go.Proofs.YtbgkcbppkhakhaaDoorW.PrintLast Go.Proofs.YtbgkcbppkhakhaaDoorW.PrintMore
attribute [local go_sem] max2_int min2_int max_two min_two max_three min_three max_four min_four   -- for this text's walks alone
set_option linter.unusedVariables false
set_option linter.unusedSimpArgs false



def errW : Option Int → Value
  | none => .nilIface
  | some c => .iface 0 (.int .i64 c)
theorem errW_none : errW none = .nilIface := rfl
theorem errW_some (c : Int) : errW (some c) = .iface 0 (.int .i64 c) := rfl

theorem info3 : (Tryd.prog.info? 3).map (fun i => (i.zero, i.size, i.bytes)) = some (some (.int .i64 0), 1, 8) := by kernel_rfl
theorem info5 : (Tryd.prog.info? 5).map (fun i => (i.zero, i.size, i.bytes)) = some (some (.int .u8 0), 1, 1) := by kernel_rfl
theorem info9 : (Tryd.prog.info? 9).map (fun i => (i.zero, i.size, i.bytes)) = some (some (.string ⟨#[]⟩), 1, 16) := by kernel_rfl
-- the values' own types

end Go.Proofs.YtbgkcbppkhakhaaDoor.PK
