-- written by a program of this session's (wip/tools), over the kit's print
import Derived.Test.YtgfjgpnaalblbaaGreatDoorProg
import Derived.Below
import Derived.Deep.Draws
import Derived.Deep.AppendLies
import Derived.Maps.AppendAt
import Derived.OwnWalk
import Derived.Laws.BytesArg
import Derived.Laws.MakeOwn
import Derived.Laws.OwnMore
import Derived.Deep.OwnRows
import Derived.Tactics
import Derived.Lib.ConvBytes
import Derived.Laws.Slices
import Derived.WalkKit
import Derived.KernelRfl
import Derived.RowKit3
import Derived.Deep.LoopGhost
import Derived.Deep.QuietTactic
import Derived.BigQuiet
import Derived.WideLaws
import Derived.Deep.DeepCutAuto
import Derived.Deep.CutBlock
import Derived.Deep.RegionHeld3
import Derived.Laws.Rows
import Derived.Lib.AppendStr
import Derived.ArgAppend
import Derived.Laws.IdiomCopy
import Derived.OrdersHeld
import Derived.Laws.BitsLemmas
import Derived.RowKit
import Derived.Test.YtgfjgpnaalblbaaGreatDoorShelf
import Derived.Shelf.Abstract
import Derived.Lib.OthersKept
import Derived.Test.YtgfjgpnaalblbaaGreatDoorWWords
import Derived.Test.YtgfjgpnaalblbaaGreatDoorWLast
import Derived.Test.YtgfjgpnaalblbaaGreatDoorWTab
import Derived.Test.YtgfjgpnaalblbaaGreatDoorWFour
import Derived.Test.YtgfjgpnaalblbaaGreatDoorWQPut
import Derived.Test.YtgfjgpnaalblbaaGreatDoorWApart
import Derived.Test.YtgfjgpnaalblbaaGreatDoorWArr
import Derived.Test.YtgfjgpnaalblbaaGreatDoorWZeros
import Derived.Test.YtgfjgpnaalblbaaGreatDoorWFoot
import Derived.Test.YtgfjgpnaalblbaaGreatDoorWKept
import Derived.Test.YtgfjgpnaalblbaaGreatDoorWShare
import Derived.Test.YtgfjgpnaalblbaaGreatDoorWN
import Derived.Test.YtgfjgpnaalblbaaGreatDoorWFootNe
import Derived.Test.YtgfjgpnaalblbaaGreatDoorWAt
import Derived.Test.YtgfjgpnaalblbaaGreatDoorWEqStruct
import Derived.Test.YtgfjgpnaalblbaaGreatDoorWRepsOne
import Derived.Test.YtgfjgpnaalblbaaGreatDoorWInv
import Derived.Test.YtgfjgpnaalblbaaGreatDoorWInvWords
import Derived.Test.YtgfjgpnaalblbaaGreatDoorWGuard
import Derived.Test.YtgfjgpnaalblbaaGreatDoorWNEv
import Derived.Test.YtgfjgpnaalblbaaGreatDoorWMore
-- squeezed
-- squeezed twice
namespace Go.Proofs.YtgfjgpnaalblbaaGreatDoor.PN
open Go.RowKit Go.Proofs.YtgfjgpnaalblbaaGreatDoorW.PrintWords Go.Proofs.YtgfjgpnaalblbaaGreatDoorW.PrintLast Go.Proofs.YtgfjgpnaalblbaaGreatDoorW.PrintMore
attribute [local go_sem] max2_int min2_int max_two min_two max_three min_three max_four min_four   -- for this text's walks alone
set_option linter.unusedVariables false
set_option linter.unusedSimpArgs false



def errW : Option Int → Value
 | none => .nilIface
 | some c => .iface 0 (.int .i64 c)
theorem errW_none : errW none = .nilIface := rfl
theorem errW_some (c : Int) : errW (some c) = .iface 0 (.int .i64 c) := rfl

theorem info3 : (Tryz.prog.info? 3).map (fun i => (i.zero, i.size, i.bytes)) = some (some (.int .i64 0), 1, 8) := by kernel_rfl
theorem info5 : (Tryz.prog.info? 5).map (fun i => (i.zero, i.size, i.bytes)) = some (some (.int .u8 0), 1, 1) := by kernel_rfl
theorem info9 : (Tryz.prog.info? 9).map (fun i => (i.zero, i.size, i.bytes)) = some (some (.string ⟨#[]⟩), 1, 16) := by kernel_rfl
-- the values' own types

theorem sA {α : Type} (l : List α) (i : Nat) (a : α) : l.toArray.setIfInBounds i a = (l.set i a).toArray := List.setIfInBounds_toArray l i a
theorem sB {α : Type} {x : α} {xs : List α} {a : α} : (x :: xs).set 0 a = a :: xs := List.set_cons_zero
theorem sC {α : Type} {x : α} {xs : List α} {n : Nat} {a : α} : (x :: xs).set (n + 1) a = x :: xs.set n a := List.set_cons_succ
abbrev aM {p : Prop} (h : p) : Aside0 p := Aside0.mk h
abbrev T := true
abbrev F := false
abbrev bA := @below_alloc
abbrev bN := @pw_below_drewN
abbrev bD := @below_drew1
abbrev bS := @below_set
abbrev rA := @Kd.R_alloc
abbrev rN := @Kd.R_drewN
abbrev rD := @Kd.R_drew
abbrev cA := @Kd.C_alloc
abbrev cN := @Kd.C_drewN
abbrev cD := @Kd.C_drew
abbrev kN := @blk_drewN
abbrev kD := @blk_drew
abbrev kA := @blk_alloc
end Go.Proofs.YtgfjgpnaalblbaaGreatDoor.PN
