-- written by a program of this session's (wip/tools), over the kit's print
import Derived.Test.YtaikpgpkadilaaaDoorProg
import Derived.Below
import Derived.Deep.Draws
import Derived.Deep.AppendLies
import Derived.Maps.AppendAt
import Derived.OwnWalk
import Derived.Laws.BytesArg
import Derived.Laws.MakeOwn
import Derived.Laws.OwnMore
import Derived.Deep.OwnRows
import Derived.Tactics
import Derived.Lib.ConvBytes
import Derived.Laws.Slices
import Derived.WalkKit
import Derived.KernelRfl
import Derived.RowKit3
import Derived.Deep.LoopGhost
import Derived.Deep.QuietTactic
import Derived.BigQuiet
import Derived.WideLaws
import Derived.Deep.DeepCutAuto
import Derived.Deep.CutBlock
import Derived.Deep.RegionHeld3
import Derived.Laws.Rows
import Derived.Lib.AppendStr
import Derived.ArgAppend
import Derived.Laws.IdiomCopy
import Derived.OrdersHeld
import Derived.Laws.BitsLemmas
import Derived.RowKit
import Derived.Test.YtaikpgpkadilaaaDoorShelf
import Derived.Shelf.Abstract
import Derived.Lib.OthersKept
import Derived.Test.YtaikpgpkadilaaaDoorWWords
import Derived.Test.YtaikpgpkadilaaaDoorWLast
import Derived.Test.YtaikpgpkadilaaaDoorWTab
import Derived.Test.YtaikpgpkadilaaaDoorWFour
import Derived.Test.YtaikpgpkadilaaaDoorWQPut
import Derived.Test.YtaikpgpkadilaaaDoorWApart
import Derived.Test.YtaikpgpkadilaaaDoorWArr
import Derived.Test.YtaikpgpkadilaaaDoorWZeros
import Derived.Test.YtaikpgpkadilaaaDoorWFoot
import Derived.Test.YtaikpgpkadilaaaDoorWKept
import Derived.Test.YtaikpgpkadilaaaDoorWShare
import Derived.Test.YtaikpgpkadilaaaDoorWN
import Derived.Test.YtaikpgpkadilaaaDoorWFootNe
import Derived.Test.YtaikpgpkadilaaaDoorWAt
import Derived.Test.YtaikpgpkadilaaaDoorWEqStruct
import Derived.Test.YtaikpgpkadilaaaDoorWRepsOne
import Derived.Test.YtaikpgpkadilaaaDoorWInv
import Derived.Test.YtaikpgpkadilaaaDoorWInvWords
import Derived.Test.YtaikpgpkadilaaaDoorWGuard
import Derived.Test.YtaikpgpkadilaaaDoorWNEv
import Derived.Test.YtaikpgpkadilaaaDoorWMore
namespace Go.Proofs.YtaikpgpkadilaaaDoor.PK
open Go.RowKit Go.Proofs.YtaikpgpkadilaaaDoorW.PrintWords Go.Proofs.YtaikpgpkadilaaaDoorW.PrintLast Go.Proofs.YtaikpgpkadilaaaDoorW.PrintMore
attribute [local go_sem] max2_int min2_int max_two min_two max_three min_three max_four min_four   -- for this text's walks alone
set_option linter.unusedVariables false
set_option linter.unusedSimpArgs false



def errW : Option Int → Value
  | none => .nilIface
  | some c => .iface 0 (.int .i64 c)
theorem errW_none : errW none = .nilIface := rfl
theorem errW_some (c : Int) : errW (some c) = .iface 0 (.int .i64 c) := rfl

theorem info9 : (Tryd.prog.info? 9).map (fun i => (i.zero, i.size, i.bytes)) = some (some (.string ⟨#[]⟩), 1, 16) := by kernel_rfl
-- the values' own types

end Go.Proofs.YtaikpgpkadilaaaDoor.PK
