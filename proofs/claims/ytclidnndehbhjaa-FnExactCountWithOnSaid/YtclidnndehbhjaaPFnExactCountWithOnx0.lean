-- PRINTED BY print.sh 35421559b90ae4d0a3588c463048766b98c2df88dd9212a6774a882060cdf62d: not written by this session
import Derived.Test.YtclidnndehbhjaaProg
import Derived.Below
import Derived.Deep.Draws
import Derived.Deep.AppendLies
import Derived.Maps.AppendAt
import Derived.OwnWalk
import Derived.Laws.BytesArg
import Derived.Laws.MakeOwn
import Derived.Laws.OwnMore
import Derived.Deep.OwnRows
import Derived.Tactics
import Derived.Lib.ConvBytes
import Derived.Laws.Slices
import Derived.WalkKit
import Derived.KernelRfl
import Derived.RowKit3
import Derived.Deep.LoopGhost
import Derived.Deep.QuietTactic
import Derived.BigQuiet
import Derived.WideLaws
import Derived.Deep.DeepCutAuto
import Derived.Deep.CutBlock
import Derived.Deep.RegionHeld3
import Derived.Laws.Rows
import Derived.Lib.AppendStr
import Derived.ArgAppend
import Derived.Laws.IdiomCopy
import Derived.OrdersHeld
import Derived.Laws.BitsLemmas
import Derived.RowKit
import Derived.Test.YtclidnndehbhjaaWWords
import Derived.Test.YtclidnndehbhjaaWLast
import Derived.Test.YtclidnndehbhjaaWTab
import Derived.Test.YtclidnndehbhjaaWFour
import Derived.Test.YtclidnndehbhjaaWQPut
import Derived.Test.YtclidnndehbhjaaWApart
import Derived.Test.YtclidnndehbhjaaWArr
import Derived.Test.YtclidnndehbhjaaWZeros
import Derived.Test.YtclidnndehbhjaaWFoot
import Derived.Test.YtclidnndehbhjaaWKept
import Derived.Test.YtclidnndehbhjaaWShare
import Derived.Test.YtclidnndehbhjaaWN
import Derived.Test.YtclidnndehbhjaaWFootNe
import Derived.Test.YtclidnndehbhjaaWAt
import Derived.Test.YtclidnndehbhjaaWEqStruct
import Derived.Test.YtclidnndehbhjaaWRepsOne
import Derived.Test.YtclidnndehbhjaaWInv
import Derived.Test.YtclidnndehbhjaaWInvWords
import Derived.Test.YtclidnndehbhjaaWGuard
import Derived.Test.YtclidnndehbhjaaWNEv
import Derived.Test.YtclidnndehbhjaaWMore
namespace Go.Proofs.Ytclidnndehbhjaa.PFnExactCountWithOn
open Go.RowKit Go.Proofs.YtclidnndehbhjaaW.PrintWords Go.Proofs.YtclidnndehbhjaaW.PrintLast Go.Proofs.YtclidnndehbhjaaW.PrintMore
attribute [local go_sem] max2_int min2_int max_two min_two max_three min_three max_four min_four   -- for this text's walks alone
set_option linter.unusedVariables false
set_option linter.unusedSimpArgs false



def errW : Option Int → Value
  | none => .nilIface
  | some c => .iface 0 (.int .i64 c)
theorem errW_none : errW none = .nilIface := rfl
theorem errW_some (c : Int) : errW (some c) = .iface 0 (.int .i64 c) := rfl

theorem info3 : (Try.prog.info? 3).map (fun i => (i.zero, i.size, i.bytes)) = some (some (.int .i64 0), 1, 8) := by kernel_rfl
-- the values' own types

end Go.Proofs.Ytclidnndehbhjaa.PFnExactCountWithOn
