-- written by a program of this session's (wip/tools), over the kit's print
import Derived.Test.YtbmbehkdidlolaaGreatDoorPTx0
import Derived.Test.YtbmbehkdidlolaaGreatDoorPTx1
import Derived.Test.YtbmbehkdidlolaaGreatDoorPTx3
import Derived.Test.YtbmbehkdidlolaaGreatDoorPTx7
import Derived.Test.YtbmbehkdidlolaaGreatDoorPTx8
import Derived.Test.YtbmbehkdidlolaaGreatDoorPTx9
import Derived.Test.YtbmbehkdidlolaaGreatDoorPTx10
import Derived.Test.YtbmbehkdidlolaaGreatDoorPTx11
import Derived.Test.YtbmbehkdidlolaaGreatDoorPTx12
import Derived.Test.YtbmbehkdidlolaaGreatDoorPTx13
import Derived.Test.YtbmbehkdidlolaaGreatDoorPTx14
-- squeezed
-- squeezed twice
namespace Go.Proofs.YtbmbehkdidlolaaGreatDoor.PT
open Go.RowKit Go.Proofs.YtbmbehkdidlolaaGreatDoorW.PrintWords Go.Proofs.YtbmbehkdidlolaaGreatDoorW.PrintLast Go.Proofs.YtbmbehkdidlolaaGreatDoorW.PrintMore
attribute [local go_sem] max2_int min2_int max_two min_two max_three min_three max_four min_four   -- for this text's walks alone
set_option linter.unusedVariables false
set_option linter.unusedSimpArgs false

/-! ### laws_FnKeysToldOfAll: function 3 -/
mutual
def laws_FnKeysToldOfAll.j0 : Nat → List ByteArray → Int → ByteArray → Bool → Option (Bool)
 | 0, _, _, _, _ => none
 | k + 1, x0, x1, x2, x72 => if x72 = true then (some true) else ((impl_LongestByKeys.f k x0).bind fun bt368 => ((spec_LongestByKeys.f k x0).bind fun bt370 => ((impl_PartsByKeys.f k x0).bind fun bt372 => ((spec_PartsByKeys.f k x0).bind fun bt374 => ((impl_LinksByKeys.f k x0).bind fun bt376 => ((spec_LinksByKeys.f k x0).bind fun bt378 => ((impl_IsLineOfStates.f k x0).bind fun bt380 => ((spec_IsLineOfStates.f k x0).bind fun bt382 => ((impl_TurnKeys.f k x0).bind fun bt384 => ((spec_TurnKeys.f k x0).bind fun bt388 => ((impl_KeysText.f k x0).bind fun bt392 => ((spec_KeysText.f k x0).bind fun bt394 => (if (bt368.2 != bt370.2) = true then (none) else (if bt368.1 = bt370.1 then (if (bt372.2 != bt374.2) = true then (none) else (if bt372.1 = bt374.1 then (if (bt376.2 != bt378.2) = true then (none) else (if bt376.1 = bt378.1 then (if (bt380.2 != bt382.2) = true then (none) else (if (bt380.1 != bt382.1) = true then (none) else (if (bt384.2 != bt388.2) = true then (none) else ((laws_yTexts.f k bt384.1 bt388.1).bind fun t396 => (if t396 = true then (if (bt392.2 != bt394.2) = true then (none) else (if bt392.1.toList = bt394.1.toList then ((impl_AreKeys.f k x0).bind fun t397 => (if (bt368.2 != t397) = true then (none) else (if (bt372.2 != bt368.2) = true then (none) else (if (bt376.2 != bt368.2) = true then (none) else (if (bt380.2 != bt368.2) = true then (none) else (if (bt384.2 != bt368.2) = true then (none) else (laws_FnKeysToldOfAll.j1 k x0 x1 x2 bt368.1 bt368.2 bt372.1 bt376.1 bt380.1 bt384.1 bt392.1 (bt392.2 != bt368.2)))))))) else (none))) else (none)))))) else (none))) else (none))) else (none)))))))))))))))
def laws_FnKeysToldOfAll.j1 : Nat → List ByteArray → Int → ByteArray → Int → Bool → Int → Int → Bool → List ByteArray → ByteArray → Bool → Option (Bool)
 | 0, _, _, _, _, _, _, _, _, _, _, _ => none
 | k + 1, x0, x1, x2, x7, x8, x11, x15, x19, x23, x27, x222 => if x222 = true then (none) else (if x8 = true then ((impl_TurnKeys.f k x23).bind fun bt398 => ((impl_LongestByKeys.f k x23).bind fun bt402 => ((impl_PartsByKeys.f k x23).bind fun bt404 => ((impl_ParseKeys.f k x27).bind fun bt406 => (if bt398.2 = true then ((laws_yTexts.f k bt398.1 x0).bind fun t410 => (if t410 = true then (if bt402.2 = true then (if bt402.1 = x7 then (if bt404.2 = true then (if bt404.1 = x11 then (if bt406.2 = true then ((laws_yTexts.f k bt406.1 x0).bind fun t411 => (if t411 = true then (if x11 < 1 then (none) else (if x11 > (shl .i64 1 (x0.length : Int)) then (none) else (if x15 < (wrap64 ((shl .i64 1 (x0.length : Int)) - x11)) then (none) else (if x15 > (wrap64 (Int.tdiv (wrap64 ((shl .i64 1 (x0.length : Int)) * (x0.length : Int))) 2)) then (none) else (if x19 = true then (if x7 = (wrap64 ((shl .i64 1 (x0.length : Int)) - 1)) then (if x11 = 1 then (if x15 = (wrap64 ((shl .i64 1 (x0.length : Int)) - 1)) then (if x7 ≥ (shl .i64 1 (x0.length : Int)) then (none) else (laws_FnKeysToldOfAll.j2 k x1 x2)) else (none)) else (none)) else (none)) else (if x7 ≥ (shl .i64 1 (x0.length : Int)) then (none) else (laws_FnKeysToldOfAll.j2 k x1 x2))))))) else (none))) else (none)) else (none)) else (none)) else (none)) else (none)) else (none))) else (none)))))) else (laws_FnKeysToldOfAll.j2 k x1 x2))
def laws_FnKeysToldOfAll.j2 : Nat → Int → ByteArray → Option (Bool)
 | 0, _, _ => none
 | k + 1, x1, x2 => (impl_BarKeys.f k x1).bind fun bt412 => ((spec_BarKeys.f k x1).bind fun bt416 => ((impl_FreeKeys.f x1).bind fun bt420 => ((spec_FreeKeys.f k x1).bind fun bt424 => ((impl_ParseKeys.f k x2).bind fun bt428 => ((spec_ParseKeys.f k x2).bind fun bt432 => (if (bt412.2 != bt416.2) = true then (none) else ((laws_yTexts.f k bt412.1 bt416.1).bind fun t436 => (if t436 = true then (if (bt420.2 != bt424.2) = true then (none) else ((laws_yTexts.f k bt420.1 bt424.1).bind fun t437 => (if t437 = true then (if (bt420.2 != bt412.2) = true then (none) else (if (bt428.2 != bt432.2) = true then (none) else ((laws_yTexts.f k bt428.1 bt432.1).bind fun t438 => (laws_FnKeysToldOfAll.j3 k x1 x2 bt412.1 bt412.2 bt420.1 bt428.1 bt428.2 (!t438))))) else (none)))) else (none)))))))))
def laws_FnKeysToldOfAll.j3 : Nat → Int → ByteArray → List ByteArray → Bool → List ByteArray → List ByteArray → Bool → Bool → Option (Bool)
 | 0, _, _, _, _, _, _, _, _ => none
 | k + 1, x1, x2, x40, x41, x44, x48, x49, x397 => if x397 = true then (none) else (if x41 = true then (laws_FnKeysToldOfAll.j4 k x1 x2 x40 x44 x48 x49 (decide (x1 ≤ 5))) else (laws_FnKeysToldOfAll.j4 k x1 x2 x40 x44 x48 x49 false))
def laws_FnKeysToldOfAll.j4 : Nat → Int → ByteArray → List ByteArray → List ByteArray → List ByteArray → Bool → Bool → Option (Bool)
 | 0, _, _, _, _, _, _, _ => none
 | k + 1, x1, x2, x40, x44, x48, x49, x402 => if x402 = true then ((impl_IsLineOfStates.f k x40).bind fun bt439 => ((impl_LongestByKeys.f k x44).bind fun bt441 => (if bt439.2 = true then (if bt439.1 = true then (if bt441.2 = true then (laws_FnKeysToldOfAll.j5 k x1 x2 x40 x48 x49 (bt441.1 != x1)) else (none)) else (none)) else (none)))) else (if x49 = true then ((impl_KeysText.f k x48).bind fun bt456 => (if bt456.2 = true then (some (bt456.1.toList == x2.toList)) else (none))) else (some true))
def laws_FnKeysToldOfAll.j5 : Nat → Int → ByteArray → List ByteArray → List ByteArray → Bool → Bool → Option (Bool)
 | 0, _, _, _, _, _, _ => none
 | k + 1, x1, x2, x40, x48, x49, x427 => if x427 = true then (none) else (laws_FnKeysToldOfAll.l0 k x1 x2 x40 x48 x49 0)
def laws_FnKeysToldOfAll.l0 : Nat → Int → ByteArray → List ByteArray → List ByteArray → Bool → Int → Option (Bool)
 | 0, _, _, _, _, _, _ => none
 | k + 1, x1, x2, x40, x48, x49, x56 => if 0 ≤ x1 then (if x56 < (shl .i64 1 x1) then ((impl_StateOfNumber.f k x1 x56).bind fun bt445 => ((impl_MovesOf.f k bt445.1).bind fun bt447 => ((impl_KeyedMoves.f k x40 bt445.1).bind fun bt451 => (if bt445.2 = true then (if bt447.2 = true then (if bt451.2 = true then ((laws_ySame.f k bt447.1 bt451.1).bind fun t455 => (if t455 = true then (laws_FnKeysToldOfAll.l0 k x1 x2 x40 x48 x49 (wrap64 (x56 + 1))) else (none))) else (none)) else (none)) else (none))))) else (if x49 = true then ((impl_KeysText.f k x48).bind fun bt443 => (if bt443.2 = true then (some (bt443.1.toList == x2.toList)) else (none))) else (some true))) else (none)
end
def laws_FnKeysToldOfAll.f (k : Nat) (l0 : List ByteArray) (a1 : Int) (a2 : ByteArray) : Option (Bool) := if (l0.length : Int) > 10000 then (laws_FnKeysToldOfAll.j0 k l0 a1 a2 true) else (laws_FnKeysToldOfAll.j0 k l0 a1 a2 (decide ((a2.size : Int) > 1048576)))
/-- THE ONE PURE STATEMENT of laws_FnKeysToldOfAll. -/
def laws_FnKeysToldOfAll.Pure : Prop := ∀ (l0 : List ByteArray) (a1 : Int) (a2 : ByteArray), l0.length ≤ maxLen → (∀ x ∈ l0, x.size ≤ maxLen) → (Lit.int .i64 a1).wf = true → a2.size ≤ 140737488351232 → ∃ k, laws_FnKeysToldOfAll.f k l0 a1 a2 = some true
theorem laws_FnKeysToldOfAll.mono_l : ∀ k, (∀ y0 y1 y2 y3, LeO (laws_FnKeysToldOfAll.j0 k y0 y1 y2 y3) (laws_FnKeysToldOfAll.j0 (k + 1) y0 y1 y2 y3)) ∧ (∀ y0 y1 y2 y3 y4 y5 y6 y7 y8 y9 y10, LeO (laws_FnKeysToldOfAll.j1 k y0 y1 y2 y3 y4 y5 y6 y7 y8 y9 y10) (laws_FnKeysToldOfAll.j1 (k + 1) y0 y1 y2 y3 y4 y5 y6 y7 y8 y9 y10)) ∧ (∀ y0 y1, LeO (laws_FnKeysToldOfAll.j2 k y0 y1) (laws_FnKeysToldOfAll.j2 (k + 1) y0 y1)) ∧ (∀ y0 y1 y2 y3 y4 y5 y6 y7, LeO (laws_FnKeysToldOfAll.j3 k y0 y1 y2 y3 y4 y5 y6 y7) (laws_FnKeysToldOfAll.j3 (k + 1) y0 y1 y2 y3 y4 y5 y6 y7)) ∧ (∀ y0 y1 y2 y3 y4 y5 y6, LeO (laws_FnKeysToldOfAll.j4 k y0 y1 y2 y3 y4 y5 y6) (laws_FnKeysToldOfAll.j4 (k + 1) y0 y1 y2 y3 y4 y5 y6)) ∧ (∀ y0 y1 y2 y3 y4 y5, LeO (laws_FnKeysToldOfAll.j5 k y0 y1 y2 y3 y4 y5) (laws_FnKeysToldOfAll.j5 (k + 1) y0 y1 y2 y3 y4 y5)) ∧ (∀ y0 y1 y2 y3 y4 y5, LeO (laws_FnKeysToldOfAll.l0 k y0 y1 y2 y3 y4 y5) (laws_FnKeysToldOfAll.l0 (k + 1) y0 y1 y2 y3 y4 y5))
 | 0 => ⟨fun _ _ _ _ r h => by simp [laws_FnKeysToldOfAll.j0] at h, fun _ _ _ _ _ _ _ _ _ _ _ r h => by simp [laws_FnKeysToldOfAll.j1] at h, fun _ _ r h => by simp [laws_FnKeysToldOfAll.j2] at h, fun _ _ _ _ _ _ _ _ r h => by simp [laws_FnKeysToldOfAll.j3] at h, fun _ _ _ _ _ _ _ r h => by simp [laws_FnKeysToldOfAll.j4] at h, fun _ _ _ _ _ _ r h => by simp [laws_FnKeysToldOfAll.j5] at h, fun _ _ _ _ _ _ r h => by simp [laws_FnKeysToldOfAll.l0] at h⟩
 | k + 1 => by
  obtain ⟨ih0, ih1, ih2, ih3, ih4, ih5, ih6⟩ := laws_FnKeysToldOfAll.mono_l k
  refine ⟨?_, ?_, ?_, ?_, ?_, ?_, ?_⟩
  ·intro y0 y1 y2 y3
   unfold laws_FnKeysToldOfAll.j0
   repeat' first
   | (with_reducible exact ih0 _ _ _ _)
   | (with_reducible exact ih1 _ _ _ _ _ _ _ _ _ _ _)
   | (with_reducible exact ih2 _ _)
   | (with_reducible exact ih3 _ _ _ _ _ _ _ _)
   | (with_reducible exact ih4 _ _ _ _ _ _ _)
   | (with_reducible exact ih5 _ _ _ _ _ _)
   | (with_reducible exact ih6 _ _ _ _ _ _)
   | (with_reducible exact impl_AreKeys.mono _ _)
   | (with_reducible exact impl_BarKeys.mono _ _)
   | (with_reducible exact impl_IsLineOfStates.mono _ _)
   | (with_reducible exact impl_KeyedMoves.mono _ _ _)
   | (with_reducible exact impl_KeysText.mono _ _)
   | (with_reducible exact impl_LinksByKeys.mono _ _)
   | (with_reducible exact impl_LongestByKeys.mono _ _)
   | (with_reducible exact impl_MovesOf.mono _ _)
   | (with_reducible exact impl_ParseKeys.mono _ _)
   | (with_reducible exact impl_PartsByKeys.mono _ _)
   | (with_reducible exact impl_StateOfNumber.mono _ _ _)
   | (with_reducible exact impl_TurnKeys.mono _ _)
   | (with_reducible exact laws_ySame.mono _ _ _)
   | (with_reducible exact laws_yTexts.mono _ _ _)
   | (with_reducible exact spec_BarKeys.mono _ _)
   | (with_reducible exact spec_FreeKeys.mono _ _)
   | (with_reducible exact spec_IsLineOfStates.mono _ _)
   | (with_reducible exact spec_KeysText.mono _ _)
   | (with_reducible exact spec_LinksByKeys.mono _ _)
   | (with_reducible exact spec_LongestByKeys.mono _ _)
   | (with_reducible exact spec_ParseKeys.mono _ _)
   | (with_reducible exact spec_PartsByKeys.mono _ _)
   | (with_reducible exact spec_TurnKeys.mono _ _)
   | (with_reducible exact LeO.refl _)
   | (with_reducible exact LeO.none _)
   | (with_reducible refine LeO.ite ?_ ?_)
   | (with_reducible refine LeO.bind ?_ (fun _ => ?_))
   | exact ih0 _ _ _ _
   | exact ih1 _ _ _ _ _ _ _ _ _ _ _
   | exact ih2 _ _
   | exact ih3 _ _ _ _ _ _ _ _
   | exact ih4 _ _ _ _ _ _ _
   | exact ih5 _ _ _ _ _ _
   | exact ih6 _ _ _ _ _ _
   | exact impl_AreKeys.mono _ _
   | exact impl_BarKeys.mono _ _
   | exact impl_IsLineOfStates.mono _ _
   | exact impl_KeyedMoves.mono _ _ _
   | exact impl_KeysText.mono _ _
   | exact impl_LinksByKeys.mono _ _
   | exact impl_LongestByKeys.mono _ _
   | exact impl_MovesOf.mono _ _
   | exact impl_ParseKeys.mono _ _
   | exact impl_PartsByKeys.mono _ _
   | exact impl_StateOfNumber.mono _ _ _
   | exact impl_TurnKeys.mono _ _
   | exact laws_ySame.mono _ _ _
   | exact laws_yTexts.mono _ _ _
   | exact spec_BarKeys.mono _ _
   | exact spec_FreeKeys.mono _ _
   | exact spec_IsLineOfStates.mono _ _
   | exact spec_KeysText.mono _ _
   | exact spec_LinksByKeys.mono _ _
   | exact spec_LongestByKeys.mono _ _
   | exact spec_ParseKeys.mono _ _
   | exact spec_PartsByKeys.mono _ _
   | exact spec_TurnKeys.mono _ _
   | exact LeO.none _
   | refine LeO.ite ?_ ?_
   | refine LeO.bind ?_ (fun _ => ?_)
  ·intro y0 y1 y2 y3 y4 y5 y6 y7 y8 y9 y10
   unfold laws_FnKeysToldOfAll.j1
   repeat' first
   | (with_reducible exact ih0 _ _ _ _)
   | (with_reducible exact ih1 _ _ _ _ _ _ _ _ _ _ _)
   | (with_reducible exact ih2 _ _)
   | (with_reducible exact ih3 _ _ _ _ _ _ _ _)
   | (with_reducible exact ih4 _ _ _ _ _ _ _)
   | (with_reducible exact ih5 _ _ _ _ _ _)
   | (with_reducible exact ih6 _ _ _ _ _ _)
   | (with_reducible exact impl_AreKeys.mono _ _)
   | (with_reducible exact impl_BarKeys.mono _ _)
   | (with_reducible exact impl_IsLineOfStates.mono _ _)
   | (with_reducible exact impl_KeyedMoves.mono _ _ _)
   | (with_reducible exact impl_KeysText.mono _ _)
   | (with_reducible exact impl_LinksByKeys.mono _ _)
   | (with_reducible exact impl_LongestByKeys.mono _ _)
   | (with_reducible exact impl_MovesOf.mono _ _)
   | (with_reducible exact impl_ParseKeys.mono _ _)
   | (with_reducible exact impl_PartsByKeys.mono _ _)
   | (with_reducible exact impl_StateOfNumber.mono _ _ _)
   | (with_reducible exact impl_TurnKeys.mono _ _)
   | (with_reducible exact laws_ySame.mono _ _ _)
   | (with_reducible exact laws_yTexts.mono _ _ _)
   | (with_reducible exact spec_BarKeys.mono _ _)
   | (with_reducible exact spec_FreeKeys.mono _ _)
   | (with_reducible exact spec_IsLineOfStates.mono _ _)
   | (with_reducible exact spec_KeysText.mono _ _)
   | (with_reducible exact spec_LinksByKeys.mono _ _)
   | (with_reducible exact spec_LongestByKeys.mono _ _)
   | (with_reducible exact spec_ParseKeys.mono _ _)
   | (with_reducible exact spec_PartsByKeys.mono _ _)
   | (with_reducible exact spec_TurnKeys.mono _ _)
   | (with_reducible exact LeO.refl _)
   | (with_reducible exact LeO.none _)
   | (with_reducible refine LeO.ite ?_ ?_)
   | (with_reducible refine LeO.bind ?_ (fun _ => ?_))
   | exact ih0 _ _ _ _
   | exact ih1 _ _ _ _ _ _ _ _ _ _ _
   | exact ih2 _ _
   | exact ih3 _ _ _ _ _ _ _ _
   | exact ih4 _ _ _ _ _ _ _
   | exact ih5 _ _ _ _ _ _
   | exact ih6 _ _ _ _ _ _
   | exact impl_AreKeys.mono _ _
   | exact impl_BarKeys.mono _ _
   | exact impl_IsLineOfStates.mono _ _
   | exact impl_KeyedMoves.mono _ _ _
   | exact impl_KeysText.mono _ _
   | exact impl_LinksByKeys.mono _ _
   | exact impl_LongestByKeys.mono _ _
   | exact impl_MovesOf.mono _ _
   | exact impl_ParseKeys.mono _ _
   | exact impl_PartsByKeys.mono _ _
   | exact impl_StateOfNumber.mono _ _ _
   | exact impl_TurnKeys.mono _ _
   | exact laws_ySame.mono _ _ _
   | exact laws_yTexts.mono _ _ _
   | exact spec_BarKeys.mono _ _
   | exact spec_FreeKeys.mono _ _
   | exact spec_IsLineOfStates.mono _ _
   | exact spec_KeysText.mono _ _
   | exact spec_LinksByKeys.mono _ _
   | exact spec_LongestByKeys.mono _ _
   | exact spec_ParseKeys.mono _ _
   | exact spec_PartsByKeys.mono _ _
   | exact spec_TurnKeys.mono _ _
   | exact LeO.none _
   | refine LeO.ite ?_ ?_
   | refine LeO.bind ?_ (fun _ => ?_)
  ·intro y0 y1
   unfold laws_FnKeysToldOfAll.j2
   repeat' first
   | (with_reducible exact ih0 _ _ _ _)
   | (with_reducible exact ih1 _ _ _ _ _ _ _ _ _ _ _)
   | (with_reducible exact ih2 _ _)
   | (with_reducible exact ih3 _ _ _ _ _ _ _ _)
   | (with_reducible exact ih4 _ _ _ _ _ _ _)
   | (with_reducible exact ih5 _ _ _ _ _ _)
   | (with_reducible exact ih6 _ _ _ _ _ _)
   | (with_reducible exact impl_AreKeys.mono _ _)
   | (with_reducible exact impl_BarKeys.mono _ _)
   | (with_reducible exact impl_IsLineOfStates.mono _ _)
   | (with_reducible exact impl_KeyedMoves.mono _ _ _)
   | (with_reducible exact impl_KeysText.mono _ _)
   | (with_reducible exact impl_LinksByKeys.mono _ _)
   | (with_reducible exact impl_LongestByKeys.mono _ _)
   | (with_reducible exact impl_MovesOf.mono _ _)
   | (with_reducible exact impl_ParseKeys.mono _ _)
   | (with_reducible exact impl_PartsByKeys.mono _ _)
   | (with_reducible exact impl_StateOfNumber.mono _ _ _)
   | (with_reducible exact impl_TurnKeys.mono _ _)
   | (with_reducible exact laws_ySame.mono _ _ _)
   | (with_reducible exact laws_yTexts.mono _ _ _)
   | (with_reducible exact spec_BarKeys.mono _ _)
   | (with_reducible exact spec_FreeKeys.mono _ _)
   | (with_reducible exact spec_IsLineOfStates.mono _ _)
   | (with_reducible exact spec_KeysText.mono _ _)
   | (with_reducible exact spec_LinksByKeys.mono _ _)
   | (with_reducible exact spec_LongestByKeys.mono _ _)
   | (with_reducible exact spec_ParseKeys.mono _ _)
   | (with_reducible exact spec_PartsByKeys.mono _ _)
   | (with_reducible exact spec_TurnKeys.mono _ _)
   | (with_reducible exact LeO.refl _)
   | (with_reducible exact LeO.none _)
   | (with_reducible refine LeO.ite ?_ ?_)
   | (with_reducible refine LeO.bind ?_ (fun _ => ?_))
   | exact ih0 _ _ _ _
   | exact ih1 _ _ _ _ _ _ _ _ _ _ _
   | exact ih2 _ _
   | exact ih3 _ _ _ _ _ _ _ _
   | exact ih4 _ _ _ _ _ _ _
   | exact ih5 _ _ _ _ _ _
   | exact ih6 _ _ _ _ _ _
   | exact impl_AreKeys.mono _ _
   | exact impl_BarKeys.mono _ _
   | exact impl_IsLineOfStates.mono _ _
   | exact impl_KeyedMoves.mono _ _ _
   | exact impl_KeysText.mono _ _
   | exact impl_LinksByKeys.mono _ _
   | exact impl_LongestByKeys.mono _ _
   | exact impl_MovesOf.mono _ _
   | exact impl_ParseKeys.mono _ _
   | exact impl_PartsByKeys.mono _ _
   | exact impl_StateOfNumber.mono _ _ _
   | exact impl_TurnKeys.mono _ _
   | exact laws_ySame.mono _ _ _
   | exact laws_yTexts.mono _ _ _
   | exact spec_BarKeys.mono _ _
   | exact spec_FreeKeys.mono _ _
   | exact spec_IsLineOfStates.mono _ _
   | exact spec_KeysText.mono _ _
   | exact spec_LinksByKeys.mono _ _
   | exact spec_LongestByKeys.mono _ _
   | exact spec_ParseKeys.mono _ _
   | exact spec_PartsByKeys.mono _ _
   | exact spec_TurnKeys.mono _ _
   | exact LeO.none _
   | refine LeO.ite ?_ ?_
   | refine LeO.bind ?_ (fun _ => ?_)
  ·intro y0 y1 y2 y3 y4 y5 y6 y7
   unfold laws_FnKeysToldOfAll.j3
   repeat' first
   | (with_reducible exact ih0 _ _ _ _)
   | (with_reducible exact ih1 _ _ _ _ _ _ _ _ _ _ _)
   | (with_reducible exact ih2 _ _)
   | (with_reducible exact ih3 _ _ _ _ _ _ _ _)
   | (with_reducible exact ih4 _ _ _ _ _ _ _)
   | (with_reducible exact ih5 _ _ _ _ _ _)
   | (with_reducible exact ih6 _ _ _ _ _ _)
   | (with_reducible exact impl_AreKeys.mono _ _)
   | (with_reducible exact impl_BarKeys.mono _ _)
   | (with_reducible exact impl_IsLineOfStates.mono _ _)
   | (with_reducible exact impl_KeyedMoves.mono _ _ _)
   | (with_reducible exact impl_KeysText.mono _ _)
   | (with_reducible exact impl_LinksByKeys.mono _ _)
   | (with_reducible exact impl_LongestByKeys.mono _ _)
   | (with_reducible exact impl_MovesOf.mono _ _)
   | (with_reducible exact impl_ParseKeys.mono _ _)
   | (with_reducible exact impl_PartsByKeys.mono _ _)
   | (with_reducible exact impl_StateOfNumber.mono _ _ _)
   | (with_reducible exact impl_TurnKeys.mono _ _)
   | (with_reducible exact laws_ySame.mono _ _ _)
   | (with_reducible exact laws_yTexts.mono _ _ _)
   | (with_reducible exact spec_BarKeys.mono _ _)
   | (with_reducible exact spec_FreeKeys.mono _ _)
   | (with_reducible exact spec_IsLineOfStates.mono _ _)
   | (with_reducible exact spec_KeysText.mono _ _)
   | (with_reducible exact spec_LinksByKeys.mono _ _)
   | (with_reducible exact spec_LongestByKeys.mono _ _)
   | (with_reducible exact spec_ParseKeys.mono _ _)
   | (with_reducible exact spec_PartsByKeys.mono _ _)
   | (with_reducible exact spec_TurnKeys.mono _ _)
   | (with_reducible exact LeO.refl _)
   | (with_reducible exact LeO.none _)
   | (with_reducible refine LeO.ite ?_ ?_)
   | (with_reducible refine LeO.bind ?_ (fun _ => ?_))
   | exact ih0 _ _ _ _
   | exact ih1 _ _ _ _ _ _ _ _ _ _ _
   | exact ih2 _ _
   | exact ih3 _ _ _ _ _ _ _ _
   | exact ih4 _ _ _ _ _ _ _
   | exact ih5 _ _ _ _ _ _
   | exact ih6 _ _ _ _ _ _
   | exact impl_AreKeys.mono _ _
   | exact impl_BarKeys.mono _ _
   | exact impl_IsLineOfStates.mono _ _
   | exact impl_KeyedMoves.mono _ _ _
   | exact impl_KeysText.mono _ _
   | exact impl_LinksByKeys.mono _ _
   | exact impl_LongestByKeys.mono _ _
   | exact impl_MovesOf.mono _ _
   | exact impl_ParseKeys.mono _ _
   | exact impl_PartsByKeys.mono _ _
   | exact impl_StateOfNumber.mono _ _ _
   | exact impl_TurnKeys.mono _ _
   | exact laws_ySame.mono _ _ _
   | exact laws_yTexts.mono _ _ _
   | exact spec_BarKeys.mono _ _
   | exact spec_FreeKeys.mono _ _
   | exact spec_IsLineOfStates.mono _ _
   | exact spec_KeysText.mono _ _
   | exact spec_LinksByKeys.mono _ _
   | exact spec_LongestByKeys.mono _ _
   | exact spec_ParseKeys.mono _ _
   | exact spec_PartsByKeys.mono _ _
   | exact spec_TurnKeys.mono _ _
   | exact LeO.none _
   | refine LeO.ite ?_ ?_
   | refine LeO.bind ?_ (fun _ => ?_)
  ·intro y0 y1 y2 y3 y4 y5 y6
   unfold laws_FnKeysToldOfAll.j4
   repeat' first
   | (with_reducible exact ih0 _ _ _ _)
   | (with_reducible exact ih1 _ _ _ _ _ _ _ _ _ _ _)
   | (with_reducible exact ih2 _ _)
   | (with_reducible exact ih3 _ _ _ _ _ _ _ _)
   | (with_reducible exact ih4 _ _ _ _ _ _ _)
   | (with_reducible exact ih5 _ _ _ _ _ _)
   | (with_reducible exact ih6 _ _ _ _ _ _)
   | (with_reducible exact impl_AreKeys.mono _ _)
   | (with_reducible exact impl_BarKeys.mono _ _)
   | (with_reducible exact impl_IsLineOfStates.mono _ _)
   | (with_reducible exact impl_KeyedMoves.mono _ _ _)
   | (with_reducible exact impl_KeysText.mono _ _)
   | (with_reducible exact impl_LinksByKeys.mono _ _)
   | (with_reducible exact impl_LongestByKeys.mono _ _)
   | (with_reducible exact impl_MovesOf.mono _ _)
   | (with_reducible exact impl_ParseKeys.mono _ _)
   | (with_reducible exact impl_PartsByKeys.mono _ _)
   | (with_reducible exact impl_StateOfNumber.mono _ _ _)
   | (with_reducible exact impl_TurnKeys.mono _ _)
   | (with_reducible exact laws_ySame.mono _ _ _)
   | (with_reducible exact laws_yTexts.mono _ _ _)
   | (with_reducible exact spec_BarKeys.mono _ _)
   | (with_reducible exact spec_FreeKeys.mono _ _)
   | (with_reducible exact spec_IsLineOfStates.mono _ _)
   | (with_reducible exact spec_KeysText.mono _ _)
   | (with_reducible exact spec_LinksByKeys.mono _ _)
   | (with_reducible exact spec_LongestByKeys.mono _ _)
   | (with_reducible exact spec_ParseKeys.mono _ _)
   | (with_reducible exact spec_PartsByKeys.mono _ _)
   | (with_reducible exact spec_TurnKeys.mono _ _)
   | (with_reducible exact LeO.refl _)
   | (with_reducible exact LeO.none _)
   | (with_reducible refine LeO.ite ?_ ?_)
   | (with_reducible refine LeO.bind ?_ (fun _ => ?_))
   | exact ih0 _ _ _ _
   | exact ih1 _ _ _ _ _ _ _ _ _ _ _
   | exact ih2 _ _
   | exact ih3 _ _ _ _ _ _ _ _
   | exact ih4 _ _ _ _ _ _ _
   | exact ih5 _ _ _ _ _ _
   | exact ih6 _ _ _ _ _ _
   | exact impl_AreKeys.mono _ _
   | exact impl_BarKeys.mono _ _
   | exact impl_IsLineOfStates.mono _ _
   | exact impl_KeyedMoves.mono _ _ _
   | exact impl_KeysText.mono _ _
   | exact impl_LinksByKeys.mono _ _
   | exact impl_LongestByKeys.mono _ _
   | exact impl_MovesOf.mono _ _
   | exact impl_ParseKeys.mono _ _
   | exact impl_PartsByKeys.mono _ _
   | exact impl_StateOfNumber.mono _ _ _
   | exact impl_TurnKeys.mono _ _
   | exact laws_ySame.mono _ _ _
   | exact laws_yTexts.mono _ _ _
   | exact spec_BarKeys.mono _ _
   | exact spec_FreeKeys.mono _ _
   | exact spec_IsLineOfStates.mono _ _
   | exact spec_KeysText.mono _ _
   | exact spec_LinksByKeys.mono _ _
   | exact spec_LongestByKeys.mono _ _
   | exact spec_ParseKeys.mono _ _
   | exact spec_PartsByKeys.mono _ _
   | exact spec_TurnKeys.mono _ _
   | exact LeO.none _
   | refine LeO.ite ?_ ?_
   | refine LeO.bind ?_ (fun _ => ?_)
  ·intro y0 y1 y2 y3 y4 y5
   unfold laws_FnKeysToldOfAll.j5
   repeat' first
   | (with_reducible exact ih0 _ _ _ _)
   | (with_reducible exact ih1 _ _ _ _ _ _ _ _ _ _ _)
   | (with_reducible exact ih2 _ _)
   | (with_reducible exact ih3 _ _ _ _ _ _ _ _)
   | (with_reducible exact ih4 _ _ _ _ _ _ _)
   | (with_reducible exact ih5 _ _ _ _ _ _)
   | (with_reducible exact ih6 _ _ _ _ _ _)
   | (with_reducible exact impl_AreKeys.mono _ _)
   | (with_reducible exact impl_BarKeys.mono _ _)
   | (with_reducible exact impl_IsLineOfStates.mono _ _)
   | (with_reducible exact impl_KeyedMoves.mono _ _ _)
   | (with_reducible exact impl_KeysText.mono _ _)
   | (with_reducible exact impl_LinksByKeys.mono _ _)
   | (with_reducible exact impl_LongestByKeys.mono _ _)
   | (with_reducible exact impl_MovesOf.mono _ _)
   | (with_reducible exact impl_ParseKeys.mono _ _)
   | (with_reducible exact impl_PartsByKeys.mono _ _)
   | (with_reducible exact impl_StateOfNumber.mono _ _ _)
   | (with_reducible exact impl_TurnKeys.mono _ _)
   | (with_reducible exact laws_ySame.mono _ _ _)
   | (with_reducible exact laws_yTexts.mono _ _ _)
   | (with_reducible exact spec_BarKeys.mono _ _)
   | (with_reducible exact spec_FreeKeys.mono _ _)
   | (with_reducible exact spec_IsLineOfStates.mono _ _)
   | (with_reducible exact spec_KeysText.mono _ _)
   | (with_reducible exact spec_LinksByKeys.mono _ _)
   | (with_reducible exact spec_LongestByKeys.mono _ _)
   | (with_reducible exact spec_ParseKeys.mono _ _)
   | (with_reducible exact spec_PartsByKeys.mono _ _)
   | (with_reducible exact spec_TurnKeys.mono _ _)
   | (with_reducible exact LeO.refl _)
   | (with_reducible exact LeO.none _)
   | (with_reducible refine LeO.ite ?_ ?_)
   | (with_reducible refine LeO.bind ?_ (fun _ => ?_))
   | exact ih0 _ _ _ _
   | exact ih1 _ _ _ _ _ _ _ _ _ _ _
   | exact ih2 _ _
   | exact ih3 _ _ _ _ _ _ _ _
   | exact ih4 _ _ _ _ _ _ _
   | exact ih5 _ _ _ _ _ _
   | exact ih6 _ _ _ _ _ _
   | exact impl_AreKeys.mono _ _
   | exact impl_BarKeys.mono _ _
   | exact impl_IsLineOfStates.mono _ _
   | exact impl_KeyedMoves.mono _ _ _
   | exact impl_KeysText.mono _ _
   | exact impl_LinksByKeys.mono _ _
   | exact impl_LongestByKeys.mono _ _
   | exact impl_MovesOf.mono _ _
   | exact impl_ParseKeys.mono _ _
   | exact impl_PartsByKeys.mono _ _
   | exact impl_StateOfNumber.mono _ _ _
   | exact impl_TurnKeys.mono _ _
   | exact laws_ySame.mono _ _ _
   | exact laws_yTexts.mono _ _ _
   | exact spec_BarKeys.mono _ _
   | exact spec_FreeKeys.mono _ _
   | exact spec_IsLineOfStates.mono _ _
   | exact spec_KeysText.mono _ _
   | exact spec_LinksByKeys.mono _ _
   | exact spec_LongestByKeys.mono _ _
   | exact spec_ParseKeys.mono _ _
   | exact spec_PartsByKeys.mono _ _
   | exact spec_TurnKeys.mono _ _
   | exact LeO.none _
   | refine LeO.ite ?_ ?_
   | refine LeO.bind ?_ (fun _ => ?_)
  ·intro y0 y1 y2 y3 y4 y5
   unfold laws_FnKeysToldOfAll.l0
   repeat' first
   | (with_reducible exact ih0 _ _ _ _)
   | (with_reducible exact ih1 _ _ _ _ _ _ _ _ _ _ _)
   | (with_reducible exact ih2 _ _)
   | (with_reducible exact ih3 _ _ _ _ _ _ _ _)
   | (with_reducible exact ih4 _ _ _ _ _ _ _)
   | (with_reducible exact ih5 _ _ _ _ _ _)
   | (with_reducible exact ih6 _ _ _ _ _ _)
   | (with_reducible exact impl_AreKeys.mono _ _)
   | (with_reducible exact impl_BarKeys.mono _ _)
   | (with_reducible exact impl_IsLineOfStates.mono _ _)
   | (with_reducible exact impl_KeyedMoves.mono _ _ _)
   | (with_reducible exact impl_KeysText.mono _ _)
   | (with_reducible exact impl_LinksByKeys.mono _ _)
   | (with_reducible exact impl_LongestByKeys.mono _ _)
   | (with_reducible exact impl_MovesOf.mono _ _)
   | (with_reducible exact impl_ParseKeys.mono _ _)
   | (with_reducible exact impl_PartsByKeys.mono _ _)
   | (with_reducible exact impl_StateOfNumber.mono _ _ _)
   | (with_reducible exact impl_TurnKeys.mono _ _)
   | (with_reducible exact laws_ySame.mono _ _ _)
   | (with_reducible exact laws_yTexts.mono _ _ _)
   | (with_reducible exact spec_BarKeys.mono _ _)
   | (with_reducible exact spec_FreeKeys.mono _ _)
   | (with_reducible exact spec_IsLineOfStates.mono _ _)
   | (with_reducible exact spec_KeysText.mono _ _)
   | (with_reducible exact spec_LinksByKeys.mono _ _)
   | (with_reducible exact spec_LongestByKeys.mono _ _)
   | (with_reducible exact spec_ParseKeys.mono _ _)
   | (with_reducible exact spec_PartsByKeys.mono _ _)
   | (with_reducible exact spec_TurnKeys.mono _ _)
   | (with_reducible exact LeO.refl _)
   | (with_reducible exact LeO.none _)
   | (with_reducible refine LeO.ite ?_ ?_)
   | (with_reducible refine LeO.bind ?_ (fun _ => ?_))
   | exact ih0 _ _ _ _
   | exact ih1 _ _ _ _ _ _ _ _ _ _ _
   | exact ih2 _ _
   | exact ih3 _ _ _ _ _ _ _ _
   | exact ih4 _ _ _ _ _ _ _
   | exact ih5 _ _ _ _ _ _
   | exact ih6 _ _ _ _ _ _
   | exact impl_AreKeys.mono _ _
   | exact impl_BarKeys.mono _ _
   | exact impl_IsLineOfStates.mono _ _
   | exact impl_KeyedMoves.mono _ _ _
   | exact impl_KeysText.mono _ _
   | exact impl_LinksByKeys.mono _ _
   | exact impl_LongestByKeys.mono _ _
   | exact impl_MovesOf.mono _ _
   | exact impl_ParseKeys.mono _ _
   | exact impl_PartsByKeys.mono _ _
   | exact impl_StateOfNumber.mono _ _ _
   | exact impl_TurnKeys.mono _ _
   | exact laws_ySame.mono _ _ _
   | exact laws_yTexts.mono _ _ _
   | exact spec_BarKeys.mono _ _
   | exact spec_FreeKeys.mono _ _
   | exact spec_IsLineOfStates.mono _ _
   | exact spec_KeysText.mono _ _
   | exact spec_LinksByKeys.mono _ _
   | exact spec_LongestByKeys.mono _ _
   | exact spec_ParseKeys.mono _ _
   | exact spec_PartsByKeys.mono _ _
   | exact spec_TurnKeys.mono _ _
   | exact LeO.none _
   | refine LeO.ite ?_ ?_
   | refine LeO.bind ?_ (fun _ => ?_)
theorem laws_FnKeysToldOfAll.mono : ∀ a0 a1 a2 k, LeO (laws_FnKeysToldOfAll.f k a0 a1 a2) (laws_FnKeysToldOfAll.f (k + 1) a0 a1 a2) := by
 intro a0 a1 a2 k
 obtain ⟨ih0, ih1, ih2, ih3, ih4, ih5, ih6⟩ := laws_FnKeysToldOfAll.mono_l k
 unfold laws_FnKeysToldOfAll.f
 repeat' first
   | (with_reducible exact ih0 _ _ _ _)
   | (with_reducible exact ih1 _ _ _ _ _ _ _ _ _ _ _)
   | (with_reducible exact ih2 _ _)
   | (with_reducible exact ih3 _ _ _ _ _ _ _ _)
   | (with_reducible exact ih4 _ _ _ _ _ _ _)
   | (with_reducible exact ih5 _ _ _ _ _ _)
   | (with_reducible exact ih6 _ _ _ _ _ _)
   | (with_reducible exact impl_AreKeys.mono _ _)
   | (with_reducible exact impl_BarKeys.mono _ _)
   | (with_reducible exact impl_IsLineOfStates.mono _ _)
   | (with_reducible exact impl_KeyedMoves.mono _ _ _)
   | (with_reducible exact impl_KeysText.mono _ _)
   | (with_reducible exact impl_LinksByKeys.mono _ _)
   | (with_reducible exact impl_LongestByKeys.mono _ _)
   | (with_reducible exact impl_MovesOf.mono _ _)
   | (with_reducible exact impl_ParseKeys.mono _ _)
   | (with_reducible exact impl_PartsByKeys.mono _ _)
   | (with_reducible exact impl_StateOfNumber.mono _ _ _)
   | (with_reducible exact impl_TurnKeys.mono _ _)
   | (with_reducible exact laws_ySame.mono _ _ _)
   | (with_reducible exact laws_yTexts.mono _ _ _)
   | (with_reducible exact spec_BarKeys.mono _ _)
   | (with_reducible exact spec_FreeKeys.mono _ _)
   | (with_reducible exact spec_IsLineOfStates.mono _ _)
   | (with_reducible exact spec_KeysText.mono _ _)
   | (with_reducible exact spec_LinksByKeys.mono _ _)
   | (with_reducible exact spec_LongestByKeys.mono _ _)
   | (with_reducible exact spec_ParseKeys.mono _ _)
   | (with_reducible exact spec_PartsByKeys.mono _ _)
   | (with_reducible exact spec_TurnKeys.mono _ _)
   | (with_reducible exact LeO.refl _)
   | (with_reducible exact LeO.none _)
   | (with_reducible refine LeO.ite ?_ ?_)
   | (with_reducible refine LeO.bind ?_ (fun _ => ?_))
   | exact ih0 _ _ _ _
   | exact ih1 _ _ _ _ _ _ _ _ _ _ _
   | exact ih2 _ _
   | exact ih3 _ _ _ _ _ _ _ _
   | exact ih4 _ _ _ _ _ _ _
   | exact ih5 _ _ _ _ _ _
   | exact ih6 _ _ _ _ _ _
   | exact impl_AreKeys.mono _ _
   | exact impl_BarKeys.mono _ _
   | exact impl_IsLineOfStates.mono _ _
   | exact impl_KeyedMoves.mono _ _ _
   | exact impl_KeysText.mono _ _
   | exact impl_LinksByKeys.mono _ _
   | exact impl_LongestByKeys.mono _ _
   | exact impl_MovesOf.mono _ _
   | exact impl_ParseKeys.mono _ _
   | exact impl_PartsByKeys.mono _ _
   | exact impl_StateOfNumber.mono _ _ _
   | exact impl_TurnKeys.mono _ _
   | exact laws_ySame.mono _ _ _
   | exact laws_yTexts.mono _ _ _
   | exact spec_BarKeys.mono _ _
   | exact spec_FreeKeys.mono _ _
   | exact spec_IsLineOfStates.mono _ _
   | exact spec_KeysText.mono _ _
   | exact spec_LinksByKeys.mono _ _
   | exact spec_LongestByKeys.mono _ _
   | exact spec_ParseKeys.mono _ _
   | exact spec_PartsByKeys.mono _ _
   | exact spec_TurnKeys.mono _ _
   | exact LeO.none _
   | refine LeO.ite ?_ ?_
   | refine LeO.bind ?_ (fun _ => ?_)
/-- What stands open at a cut, out of reach of the walk's own closers. -/
structure Held_ (p : Prop) : Prop where mk :: (out : p)
set_option maxHeartbeats 40000000 in
set_option maxRecDepth 100000 in
noncomputable def laws_FnKeysToldOfAll.part1 : { G_ : Prop // Held_ G_ → (∀ (k : Nat) (A0 : Option Addr) (c0 : Nat) (l0 : List ByteArray) (a1 : Int) (a2 : ByteArray) (r : Bool) (w : World) (hr0 : Kd.C Kd.string w A0 l0.length l0) (hc0 : l0.length ≤ c0) (h : laws_FnKeysToldOfAll.f k l0 a1 a2 = some r), Calls Tryz.prog 3 #[.slice A0 l0.length c0, .int .i64 a1, .string a2] w fun e w' => e = .returned (.bool r) ∧ Below w.heap.size w w') } := by
 apply Subtype.mk
 case property =>
  intro hrest_
  intro k A0 c0 l0 a1 a2 r w hr0 hc0 h
  have HR0 := aM hr0
  have HC0 := aM hc0
  clear hr0 hc0
  have HB := aM (Below.refl w.heap.size w)
  have H : (if (l0.length : Int) > 10000 then (laws_FnKeysToldOfAll.j0 k l0 a1 a2 true) else (laws_FnKeysToldOfAll.j0 k l0 a1 a2 (decide ((a2.size : Int) > 1048576)))) = some r := h
  clear h
  have HC4 := aM H
  clear H
  go_enter Tryz.func3, Tryz.ntmps3
  go_upto_region 1 with (fail)
  go_cut [72] (fun v72 wc => ∃ (kq : Nat) (x72_3 : Bool), v72 = .bool x72_3 ∧ Aside0 (laws_FnKeysToldOfAll.j0 kq l0 a1 a2 x72_3 = some r) ∧ Aside0 (kq ≤ k) ∧ Aside0 (Below w.heap.size w wc))
  case first =>
   have H := HC4.out
   clear HC4
   by_cases c5 : (l0.length : Int) > 10000
   ·as_aux_lemma =>
     rw [if_pos c5] at H
     have c5b0 : decide (10000 < (l0.length : Int)) = true := decide_eq_true c5
     have c5b1 : decide (10000 < l0.length) = true := decide_eq_true (by omega)
     clear c5
     (first | rw [c5b0] | (simp only [i64_w, i32_w]; rw [c5b0]) | skip)
     have H' := aM H
     clear H
     go_wp2
     go_meet
     case rel => exact ⟨_, (true), (by first | rfl | (simp; done) | (simp [*]; done)), H', ⟨by first | omega | exact Nat.le_refl _⟩, ⟨by repeat (first | (with_reducible first | exact HB.out | apply bA | apply bN | apply bD) | exact HB.out)⟩⟩
   ·as_aux_lemma =>
     rw [if_neg c5] at H
     have c5b0 : decide (10000 < (l0.length : Int)) = false := decide_eq_false c5
     have c5b1 : decide (10000 < l0.length) = false := decide_eq_false (by omega)
     clear c5
     (first | rw [c5b0] | (simp only [i64_w, i32_w]; rw [c5b0]) | skip)
     have H' := aM H
     clear H
     go_wp2
     go_meet
     case rel => exact ⟨_, (decide ((a2.size : Int) > 1048576)), (by first | rfl | (simp; done) | (simp [*]; done)), H', ⟨by first | omega | exact Nat.le_refl _⟩, ⟨by repeat (first | (with_reducible first | exact HB.out | apply bA | apply bN | apply bD) | exact HB.out)⟩⟩
  case rest =>
   as_aux_lemma =>
    clear HC4
    try clear p2
    try clear c3
    try clear c5
    try clear c5b0
    try clear c5b1
    obtain ⟨kq, x72_3, rfl, HA, HJ3, HB⟩ := hcut
    cases kq with
    | zero => exact absurd HA.out (by simp [laws_FnKeysToldOfAll.j0])
    | succ kj3 =>
     have H := HA.out
     clear HA
     simp only [laws_FnKeysToldOfAll.j0] at H
     by_cases c6 : x72_3 = true
     ·as_aux_lemma =>
       subst c6
       have H1 : (some true) = some r := by rw [if_pos rfl] at H; exact H
       clear H; have H := H1; clear H1
       obtain rfl := Option.some.inj H
       go_wp2
       go_ret
       exact ⟨by first | rfl | (simp [errW_none, errW_some] <;> rfl) | (simp [*, errW_none, errW_some] <;> rfl), by repeat (first | (with_reducible first | exact HB.out | apply bA | apply bN | apply bD) | exact HB.out)⟩
     ·as_aux_lemma =>
       replace c6 := Bool.eq_false_iff.mpr c6
       subst c6
       have H1 : ((impl_LongestByKeys.f kj3 l0).bind fun bt368 => ((spec_LongestByKeys.f kj3 l0).bind fun bt370 => ((impl_PartsByKeys.f kj3 l0).bind fun bt372 => ((spec_PartsByKeys.f kj3 l0).bind fun bt374 => ((impl_LinksByKeys.f kj3 l0).bind fun bt376 => ((spec_LinksByKeys.f kj3 l0).bind fun bt378 => ((impl_IsLineOfStates.f kj3 l0).bind fun bt380 => ((spec_IsLineOfStates.f kj3 l0).bind fun bt382 => ((impl_TurnKeys.f kj3 l0).bind fun bt384 => ((spec_TurnKeys.f kj3 l0).bind fun bt388 => ((impl_KeysText.f kj3 l0).bind fun bt392 => ((spec_KeysText.f kj3 l0).bind fun bt394 => (if (bt368.2 != bt370.2) = true then (none) else (if bt368.1 = bt370.1 then (if (bt372.2 != bt374.2) = true then (none) else (if bt372.1 = bt374.1 then (if (bt376.2 != bt378.2) = true then (none) else (if bt376.1 = bt378.1 then (if (bt380.2 != bt382.2) = true then (none) else (if (bt380.1 != bt382.1) = true then (none) else (if (bt384.2 != bt388.2) = true then (none) else ((laws_yTexts.f kj3 bt384.1 bt388.1).bind fun t396 => (if t396 = true then (if (bt392.2 != bt394.2) = true then (none) else (if bt392.1.toList = bt394.1.toList then ((impl_AreKeys.f kj3 l0).bind fun t397 => (if (bt368.2 != t397) = true then (none) else (if (bt372.2 != bt368.2) = true then (none) else (if (bt376.2 != bt368.2) = true then (none) else (if (bt380.2 != bt368.2) = true then (none) else (if (bt384.2 != bt368.2) = true then (none) else (laws_FnKeysToldOfAll.j1 kj3 l0 a1 a2 bt368.1 bt368.2 bt372.1 bt376.1 bt380.1 bt384.1 bt392.1 (bt392.2 != bt368.2)))))))) else (none))) else (none)))))) else (none))) else (none))) else (none))))))))))))))) = some r := by rw [if_neg (show ¬ (false = true) by decide)] at H; exact H
       clear H; have H := H1; clear H1
       replace H := Option.bind_eq_some_iff.mp H
       obtain ⟨⟨t368, t369⟩, A70, H⟩ := H
       replace H : ((spec_LongestByKeys.f kj3 l0).bind fun bt370 => ((impl_PartsByKeys.f kj3 l0).bind fun bt372 => ((spec_PartsByKeys.f kj3 l0).bind fun bt374 => ((impl_LinksByKeys.f kj3 l0).bind fun bt376 => ((spec_LinksByKeys.f kj3 l0).bind fun bt378 => ((impl_IsLineOfStates.f kj3 l0).bind fun bt380 => ((spec_IsLineOfStates.f kj3 l0).bind fun bt382 => ((impl_TurnKeys.f kj3 l0).bind fun bt384 => ((spec_TurnKeys.f kj3 l0).bind fun bt388 => ((impl_KeysText.f kj3 l0).bind fun bt392 => ((spec_KeysText.f kj3 l0).bind fun bt394 => (if (t369 != bt370.2) = true then (none) else (if t368 = bt370.1 then (if (bt372.2 != bt374.2) = true then (none) else (if bt372.1 = bt374.1 then (if (bt376.2 != bt378.2) = true then (none) else (if bt376.1 = bt378.1 then (if (bt380.2 != bt382.2) = true then (none) else (if (bt380.1 != bt382.1) = true then (none) else (if (bt384.2 != bt388.2) = true then (none) else ((laws_yTexts.f kj3 bt384.1 bt388.1).bind fun t396 => (if t396 = true then (if (bt392.2 != bt394.2) = true then (none) else (if bt392.1.toList = bt394.1.toList then ((impl_AreKeys.f kj3 l0).bind fun t397 => (if (t369 != t397) = true then (none) else (if (bt372.2 != t369) = true then (none) else (if (bt376.2 != t369) = true then (none) else (if (bt380.2 != t369) = true then (none) else (if (bt384.2 != t369) = true then (none) else (laws_FnKeysToldOfAll.j1 kj3 l0 a1 a2 t368 t369 bt372.1 bt376.1 bt380.1 bt384.1 bt392.1 (bt392.2 != t369)))))))) else (none))) else (none)))))) else (none))) else (none))) else (none)))))))))))))) = some r := H
       have A7 := aM A70
       clear A70
       replace H := Option.bind_eq_some_iff.mp H
       obtain ⟨⟨t370, t371⟩, A80, H⟩ := H
       replace H : ((impl_PartsByKeys.f kj3 l0).bind fun bt372 => ((spec_PartsByKeys.f kj3 l0).bind fun bt374 => ((impl_LinksByKeys.f kj3 l0).bind fun bt376 => ((spec_LinksByKeys.f kj3 l0).bind fun bt378 => ((impl_IsLineOfStates.f kj3 l0).bind fun bt380 => ((spec_IsLineOfStates.f kj3 l0).bind fun bt382 => ((impl_TurnKeys.f kj3 l0).bind fun bt384 => ((spec_TurnKeys.f kj3 l0).bind fun bt388 => ((impl_KeysText.f kj3 l0).bind fun bt392 => ((spec_KeysText.f kj3 l0).bind fun bt394 => (if (t369 != t371) = true then (none) else (if t368 = t370 then (if (bt372.2 != bt374.2) = true then (none) else (if bt372.1 = bt374.1 then (if (bt376.2 != bt378.2) = true then (none) else (if bt376.1 = bt378.1 then (if (bt380.2 != bt382.2) = true then (none) else (if (bt380.1 != bt382.1) = true then (none) else (if (bt384.2 != bt388.2) = true then (none) else ((laws_yTexts.f kj3 bt384.1 bt388.1).bind fun t396 => (if t396 = true then (if (bt392.2 != bt394.2) = true then (none) else (if bt392.1.toList = bt394.1.toList then ((impl_AreKeys.f kj3 l0).bind fun t397 => (if (t369 != t397) = true then (none) else (if (bt372.2 != t369) = true then (none) else (if (bt376.2 != t369) = true then (none) else (if (bt380.2 != t369) = true then (none) else (if (bt384.2 != t369) = true then (none) else (laws_FnKeysToldOfAll.j1 kj3 l0 a1 a2 t368 t369 bt372.1 bt376.1 bt380.1 bt384.1 bt392.1 (bt392.2 != t369)))))))) else (none))) else (none)))))) else (none))) else (none))) else (none))))))))))))) = some r := H
       have A8 := aM A80
       clear A80
       replace H := Option.bind_eq_some_iff.mp H
       obtain ⟨⟨t372, t373⟩, A90, H⟩ := H
       replace H : ((spec_PartsByKeys.f kj3 l0).bind fun bt374 => ((impl_LinksByKeys.f kj3 l0).bind fun bt376 => ((spec_LinksByKeys.f kj3 l0).bind fun bt378 => ((impl_IsLineOfStates.f kj3 l0).bind fun bt380 => ((spec_IsLineOfStates.f kj3 l0).bind fun bt382 => ((impl_TurnKeys.f kj3 l0).bind fun bt384 => ((spec_TurnKeys.f kj3 l0).bind fun bt388 => ((impl_KeysText.f kj3 l0).bind fun bt392 => ((spec_KeysText.f kj3 l0).bind fun bt394 => (if (t369 != t371) = true then (none) else (if t368 = t370 then (if (t373 != bt374.2) = true then (none) else (if t372 = bt374.1 then (if (bt376.2 != bt378.2) = true then (none) else (if bt376.1 = bt378.1 then (if (bt380.2 != bt382.2) = true then (none) else (if (bt380.1 != bt382.1) = true then (none) else (if (bt384.2 != bt388.2) = true then (none) else ((laws_yTexts.f kj3 bt384.1 bt388.1).bind fun t396 => (if t396 = true then (if (bt392.2 != bt394.2) = true then (none) else (if bt392.1.toList = bt394.1.toList then ((impl_AreKeys.f kj3 l0).bind fun t397 => (if (t369 != t397) = true then (none) else (if (t373 != t369) = true then (none) else (if (bt376.2 != t369) = true then (none) else (if (bt380.2 != t369) = true then (none) else (if (bt384.2 != t369) = true then (none) else (laws_FnKeysToldOfAll.j1 kj3 l0 a1 a2 t368 t369 t372 bt376.1 bt380.1 bt384.1 bt392.1 (bt392.2 != t369)))))))) else (none))) else (none)))))) else (none))) else (none))) else (none)))))))))))) = some r := H
       have A9 := aM A90
       clear A90
       replace H := Option.bind_eq_some_iff.mp H
       obtain ⟨⟨t374, t375⟩, A100, H⟩ := H
       replace H : ((impl_LinksByKeys.f kj3 l0).bind fun bt376 => ((spec_LinksByKeys.f kj3 l0).bind fun bt378 => ((impl_IsLineOfStates.f kj3 l0).bind fun bt380 => ((spec_IsLineOfStates.f kj3 l0).bind fun bt382 => ((impl_TurnKeys.f kj3 l0).bind fun bt384 => ((spec_TurnKeys.f kj3 l0).bind fun bt388 => ((impl_KeysText.f kj3 l0).bind fun bt392 => ((spec_KeysText.f kj3 l0).bind fun bt394 => (if (t369 != t371) = true then (none) else (if t368 = t370 then (if (t373 != t375) = true then (none) else (if t372 = t374 then (if (bt376.2 != bt378.2) = true then (none) else (if bt376.1 = bt378.1 then (if (bt380.2 != bt382.2) = true then (none) else (if (bt380.1 != bt382.1) = true then (none) else (if (bt384.2 != bt388.2) = true then (none) else ((laws_yTexts.f kj3 bt384.1 bt388.1).bind fun t396 => (if t396 = true then (if (bt392.2 != bt394.2) = true then (none) else (if bt392.1.toList = bt394.1.toList then ((impl_AreKeys.f kj3 l0).bind fun t397 => (if (t369 != t397) = true then (none) else (if (t373 != t369) = true then (none) else (if (bt376.2 != t369) = true then (none) else (if (bt380.2 != t369) = true then (none) else (if (bt384.2 != t369) = true then (none) else (laws_FnKeysToldOfAll.j1 kj3 l0 a1 a2 t368 t369 t372 bt376.1 bt380.1 bt384.1 bt392.1 (bt392.2 != t369)))))))) else (none))) else (none)))))) else (none))) else (none))) else (none))))))))))) = some r := H
       have A10 := aM A100
       clear A100
       replace H := Option.bind_eq_some_iff.mp H
       obtain ⟨⟨t376, t377⟩, A110, H⟩ := H
       replace H : ((spec_LinksByKeys.f kj3 l0).bind fun bt378 => ((impl_IsLineOfStates.f kj3 l0).bind fun bt380 => ((spec_IsLineOfStates.f kj3 l0).bind fun bt382 => ((impl_TurnKeys.f kj3 l0).bind fun bt384 => ((spec_TurnKeys.f kj3 l0).bind fun bt388 => ((impl_KeysText.f kj3 l0).bind fun bt392 => ((spec_KeysText.f kj3 l0).bind fun bt394 => (if (t369 != t371) = true then (none) else (if t368 = t370 then (if (t373 != t375) = true then (none) else (if t372 = t374 then (if (t377 != bt378.2) = true then (none) else (if t376 = bt378.1 then (if (bt380.2 != bt382.2) = true then (none) else (if (bt380.1 != bt382.1) = true then (none) else (if (bt384.2 != bt388.2) = true then (none) else ((laws_yTexts.f kj3 bt384.1 bt388.1).bind fun t396 => (if t396 = true then (if (bt392.2 != bt394.2) = true then (none) else (if bt392.1.toList = bt394.1.toList then ((impl_AreKeys.f kj3 l0).bind fun t397 => (if (t369 != t397) = true then (none) else (if (t373 != t369) = true then (none) else (if (t377 != t369) = true then (none) else (if (bt380.2 != t369) = true then (none) else (if (bt384.2 != t369) = true then (none) else (laws_FnKeysToldOfAll.j1 kj3 l0 a1 a2 t368 t369 t372 t376 bt380.1 bt384.1 bt392.1 (bt392.2 != t369)))))))) else (none))) else (none)))))) else (none))) else (none))) else (none)))))))))) = some r := H
       have A11 := aM A110
       clear A110
       replace H := Option.bind_eq_some_iff.mp H
       obtain ⟨⟨t378, t379⟩, A120, H⟩ := H
       replace H : ((impl_IsLineOfStates.f kj3 l0).bind fun bt380 => ((spec_IsLineOfStates.f kj3 l0).bind fun bt382 => ((impl_TurnKeys.f kj3 l0).bind fun bt384 => ((spec_TurnKeys.f kj3 l0).bind fun bt388 => ((impl_KeysText.f kj3 l0).bind fun bt392 => ((spec_KeysText.f kj3 l0).bind fun bt394 => (if (t369 != t371) = true then (none) else (if t368 = t370 then (if (t373 != t375) = true then (none) else (if t372 = t374 then (if (t377 != t379) = true then (none) else (if t376 = t378 then (if (bt380.2 != bt382.2) = true then (none) else (if (bt380.1 != bt382.1) = true then (none) else (if (bt384.2 != bt388.2) = true then (none) else ((laws_yTexts.f kj3 bt384.1 bt388.1).bind fun t396 => (if t396 = true then (if (bt392.2 != bt394.2) = true then (none) else (if bt392.1.toList = bt394.1.toList then ((impl_AreKeys.f kj3 l0).bind fun t397 => (if (t369 != t397) = true then (none) else (if (t373 != t369) = true then (none) else (if (t377 != t369) = true then (none) else (if (bt380.2 != t369) = true then (none) else (if (bt384.2 != t369) = true then (none) else (laws_FnKeysToldOfAll.j1 kj3 l0 a1 a2 t368 t369 t372 t376 bt380.1 bt384.1 bt392.1 (bt392.2 != t369)))))))) else (none))) else (none)))))) else (none))) else (none))) else (none))))))))) = some r := H
       have A12 := aM A120
       clear A120
       replace H := Option.bind_eq_some_iff.mp H
       obtain ⟨⟨t380, t381⟩, A130, H⟩ := H
       replace H : ((spec_IsLineOfStates.f kj3 l0).bind fun bt382 => ((impl_TurnKeys.f kj3 l0).bind fun bt384 => ((spec_TurnKeys.f kj3 l0).bind fun bt388 => ((impl_KeysText.f kj3 l0).bind fun bt392 => ((spec_KeysText.f kj3 l0).bind fun bt394 => (if (t369 != t371) = true then (none) else (if t368 = t370 then (if (t373 != t375) = true then (none) else (if t372 = t374 then (if (t377 != t379) = true then (none) else (if t376 = t378 then (if (t381 != bt382.2) = true then (none) else (if (t380 != bt382.1) = true then (none) else (if (bt384.2 != bt388.2) = true then (none) else ((laws_yTexts.f kj3 bt384.1 bt388.1).bind fun t396 => (if t396 = true then (if (bt392.2 != bt394.2) = true then (none) else (if bt392.1.toList = bt394.1.toList then ((impl_AreKeys.f kj3 l0).bind fun t397 => (if (t369 != t397) = true then (none) else (if (t373 != t369) = true then (none) else (if (t377 != t369) = true then (none) else (if (t381 != t369) = true then (none) else (if (bt384.2 != t369) = true then (none) else (laws_FnKeysToldOfAll.j1 kj3 l0 a1 a2 t368 t369 t372 t376 t380 bt384.1 bt392.1 (bt392.2 != t369)))))))) else (none))) else (none)))))) else (none))) else (none))) else (none)))))))) = some r := H
       have A13 := aM A130
       clear A130
       replace H := Option.bind_eq_some_iff.mp H
       obtain ⟨⟨t382, t383⟩, A140, H⟩ := H
       replace H : ((impl_TurnKeys.f kj3 l0).bind fun bt384 => ((spec_TurnKeys.f kj3 l0).bind fun bt388 => ((impl_KeysText.f kj3 l0).bind fun bt392 => ((spec_KeysText.f kj3 l0).bind fun bt394 => (if (t369 != t371) = true then (none) else (if t368 = t370 then (if (t373 != t375) = true then (none) else (if t372 = t374 then (if (t377 != t379) = true then (none) else (if t376 = t378 then (if (t381 != t383) = true then (none) else (if (t380 != t382) = true then (none) else (if (bt384.2 != bt388.2) = true then (none) else ((laws_yTexts.f kj3 bt384.1 bt388.1).bind fun t396 => (if t396 = true then (if (bt392.2 != bt394.2) = true then (none) else (if bt392.1.toList = bt394.1.toList then ((impl_AreKeys.f kj3 l0).bind fun t397 => (if (t369 != t397) = true then (none) else (if (t373 != t369) = true then (none) else (if (t377 != t369) = true then (none) else (if (t381 != t369) = true then (none) else (if (bt384.2 != t369) = true then (none) else (laws_FnKeysToldOfAll.j1 kj3 l0 a1 a2 t368 t369 t372 t376 t380 bt384.1 bt392.1 (bt392.2 != t369)))))))) else (none))) else (none)))))) else (none))) else (none))) else (none))))))) = some r := H
       have A14 := aM A140
       clear A140
       replace H := Option.bind_eq_some_iff.mp H
       obtain ⟨⟨t384, t385⟩, A150, H⟩ := H
       replace H : ((spec_TurnKeys.f kj3 l0).bind fun bt388 => ((impl_KeysText.f kj3 l0).bind fun bt392 => ((spec_KeysText.f kj3 l0).bind fun bt394 => (if (t369 != t371) = true then (none) else (if t368 = t370 then (if (t373 != t375) = true then (none) else (if t372 = t374 then (if (t377 != t379) = true then (none) else (if t376 = t378 then (if (t381 != t383) = true then (none) else (if (t380 != t382) = true then (none) else (if (t385 != bt388.2) = true then (none) else ((laws_yTexts.f kj3 t384 bt388.1).bind fun t396 => (if t396 = true then (if (bt392.2 != bt394.2) = true then (none) else (if bt392.1.toList = bt394.1.toList then ((impl_AreKeys.f kj3 l0).bind fun t397 => (if (t369 != t397) = true then (none) else (if (t373 != t369) = true then (none) else (if (t377 != t369) = true then (none) else (if (t381 != t369) = true then (none) else (if (t385 != t369) = true then (none) else (laws_FnKeysToldOfAll.j1 kj3 l0 a1 a2 t368 t369 t372 t376 t380 t384 bt392.1 (bt392.2 != t369)))))))) else (none))) else (none)))))) else (none))) else (none))) else (none)))))) = some r := H
       have A15 := aM A150
       clear A150
       replace H := Option.bind_eq_some_iff.mp H
       obtain ⟨⟨t388, t389⟩, A160, H⟩ := H
       replace H : ((impl_KeysText.f kj3 l0).bind fun bt392 => ((spec_KeysText.f kj3 l0).bind fun bt394 => (if (t369 != t371) = true then (none) else (if t368 = t370 then (if (t373 != t375) = true then (none) else (if t372 = t374 then (if (t377 != t379) = true then (none) else (if t376 = t378 then (if (t381 != t383) = true then (none) else (if (t380 != t382) = true then (none) else (if (t385 != t389) = true then (none) else ((laws_yTexts.f kj3 t384 t388).bind fun t396 => (if t396 = true then (if (bt392.2 != bt394.2) = true then (none) else (if bt392.1.toList = bt394.1.toList then ((impl_AreKeys.f kj3 l0).bind fun t397 => (if (t369 != t397) = true then (none) else (if (t373 != t369) = true then (none) else (if (t377 != t369) = true then (none) else (if (t381 != t369) = true then (none) else (if (t385 != t369) = true then (none) else (laws_FnKeysToldOfAll.j1 kj3 l0 a1 a2 t368 t369 t372 t376 t380 t384 bt392.1 (bt392.2 != t369)))))))) else (none))) else (none)))))) else (none))) else (none))) else (none))))) = some r := H
       have A16 := aM A160
       clear A160
       replace H := Option.bind_eq_some_iff.mp H
       obtain ⟨⟨t392, t393⟩, A170, H⟩ := H
       replace H : ((spec_KeysText.f kj3 l0).bind fun bt394 => (if (t369 != t371) = true then (none) else (if t368 = t370 then (if (t373 != t375) = true then (none) else (if t372 = t374 then (if (t377 != t379) = true then (none) else (if t376 = t378 then (if (t381 != t383) = true then (none) else (if (t380 != t382) = true then (none) else (if (t385 != t389) = true then (none) else ((laws_yTexts.f kj3 t384 t388).bind fun t396 => (if t396 = true then (if (t393 != bt394.2) = true then (none) else (if t392.toList = bt394.1.toList then ((impl_AreKeys.f kj3 l0).bind fun t397 => (if (t369 != t397) = true then (none) else (if (t373 != t369) = true then (none) else (if (t377 != t369) = true then (none) else (if (t381 != t369) = true then (none) else (if (t385 != t369) = true then (none) else (laws_FnKeysToldOfAll.j1 kj3 l0 a1 a2 t368 t369 t372 t376 t380 t384 t392 (t393 != t369)))))))) else (none))) else (none)))))) else (none))) else (none))) else (none)))) = some r := H
       have A17 := aM A170
       clear A170
       replace H := Option.bind_eq_some_iff.mp H
       obtain ⟨⟨t394, t395⟩, A180, H⟩ := H
       replace H : (if (t369 != t371) = true then (none) else (if t368 = t370 then (if (t373 != t375) = true then (none) else (if t372 = t374 then (if (t377 != t379) = true then (none) else (if t376 = t378 then (if (t381 != t383) = true then (none) else (if (t380 != t382) = true then (none) else (if (t385 != t389) = true then (none) else ((laws_yTexts.f kj3 t384 t388).bind fun t396 => (if t396 = true then (if (t393 != t395) = true then (none) else (if t392.toList = t394.toList then ((impl_AreKeys.f kj3 l0).bind fun t397 => (if (t369 != t397) = true then (none) else (if (t373 != t369) = true then (none) else (if (t377 != t369) = true then (none) else (if (t381 != t369) = true then (none) else (if (t385 != t369) = true then (none) else (laws_FnKeysToldOfAll.j1 kj3 l0 a1 a2 t368 t369 t372 t376 t380 t384 t392 (t393 != t369)))))))) else (none))) else (none)))))) else (none))) else (none))) else (none))) = some r := H
       have A18 := aM A180
       clear A180
       have HC19 := aM H
       clear H
       go_upto_region 15 with (first | ((with_reducible refine gate_callee (f := 5) rfl ?_); refine goesL_ (some 75) rfl rfl Tryz.func5 (by kernel_rfl) rfl #[.slice A0 l0.length c0] rfl (by (try simp only [List.map_toArray, List.map_cons, List.map_nil]); first | done | rfl | (simp only [List.length_drop, List.length_take]; rfl)) ?_; (with_reducible refine (impl_LongestByKeys.calls kj3 _ _ l0 t368 t369 _ ?side1 ?side2 A7.out).mono ?_); (case side1 => repeat (first | exact (Kd.C_below HR0.out HB.out) | (with_reducible refine cA ?_ _) | (with_reducible refine cN ?_ _) | (with_reducible refine cD ?_))); (case side2 => exact HC0.out); rintro e w20 ⟨rfl, hb⟩; refine ⟨_, rfl, ?_⟩; have n0_ := aM (below_step (by repeat (first | (with_reducible first | exact HB.out | apply bA | apply bN | apply bD) | exact HB.out)) hb); clear HB; have HB := n0_; clear n0_; (try clear hb); (try clear hb2); (try clear hk); (try clear hi)) | ((with_reducible refine gate_callee (f := 6) rfl ?_); refine goesL_ (some 80) rfl rfl Tryz.func6 (by kernel_rfl) rfl #[.slice A0 l0.length c0] rfl (by (try simp only [List.map_toArray, List.map_cons, List.map_nil]); first | done | rfl | (simp only [List.length_drop, List.length_take]; rfl)) ?_; (with_reducible refine (spec_LongestByKeys.calls kj3 _ _ l0 t370 t371 _ ?side1 ?side2 A8.out).mono ?_); (case side1 => repeat (first | exact (Kd.C_below HR0.out HB.out) | (with_reducible refine cA ?_ _) | (with_reducible refine cN ?_ _) | (with_reducible refine cD ?_))); (case side2 => exact HC0.out); rintro e w21 ⟨rfl, hb⟩; refine ⟨_, rfl, ?_⟩; have n0_ := aM (below_step (by repeat (first | (with_reducible first | exact HB.out | apply bA | apply bN | apply bD) | exact HB.out)) hb); clear HB; have HB := n0_; clear n0_; (try clear hb); (try clear hb2); (try clear hk); (try clear hi)) | ((with_reducible refine gate_callee (f := 7) rfl ?_); refine goesL_ (some 85) rfl rfl Tryz.func7 (by kernel_rfl) rfl #[.slice A0 l0.length c0] rfl (by (try simp only [List.map_toArray, List.map_cons, List.map_nil]); first | done | rfl | (simp only [List.length_drop, List.length_take]; rfl)) ?_; (with_reducible refine (impl_PartsByKeys.calls kj3 _ _ l0 t372 t373 _ ?side1 ?side2 A9.out).mono ?_); (case side1 => repeat (first | exact (Kd.C_below HR0.out HB.out) | (with_reducible refine cA ?_ _) | (with_reducible refine cN ?_ _) | (with_reducible refine cD ?_))); (case side2 => exact HC0.out); rintro e w22 ⟨rfl, hb⟩; refine ⟨_, rfl, ?_⟩; have n0_ := aM (below_step (by repeat (first | (with_reducible first | exact HB.out | apply bA | apply bN | apply bD) | exact HB.out)) hb); clear HB; have HB := n0_; clear n0_; (try clear hb); (try clear hb2); (try clear hk); (try clear hi)) | ((with_reducible refine gate_callee (f := 8) rfl ?_); refine goesL_ (some 90) rfl rfl Tryz.func8 (by kernel_rfl) rfl #[.slice A0 l0.length c0] rfl (by (try simp only [List.map_toArray, List.map_cons, List.map_nil]); first | done | rfl | (simp only [List.length_drop, List.length_take]; rfl)) ?_; (with_reducible refine (spec_PartsByKeys.calls kj3 _ _ l0 t374 t375 _ ?side1 ?side2 A10.out).mono ?_); (case side1 => repeat (first | exact (Kd.C_below HR0.out HB.out) | (with_reducible refine cA ?_ _) | (with_reducible refine cN ?_ _) | (with_reducible refine cD ?_))); (case side2 => exact HC0.out); rintro e w23 ⟨rfl, hb⟩; refine ⟨_, rfl, ?_⟩; have n0_ := aM (below_step (by repeat (first | (with_reducible first | exact HB.out | apply bA | apply bN | apply bD) | exact HB.out)) hb); clear HB; have HB := n0_; clear n0_; (try clear hb); (try clear hb2); (try clear hk); (try clear hi)) | ((with_reducible refine gate_callee (f := 9) rfl ?_); refine goesL_ (some 95) rfl rfl Tryz.func9 (by kernel_rfl) rfl #[.slice A0 l0.length c0] rfl (by (try simp only [List.map_toArray, List.map_cons, List.map_nil]); first | done | rfl | (simp only [List.length_drop, List.length_take]; rfl)) ?_; (with_reducible refine (impl_LinksByKeys.calls kj3 _ _ l0 t376 t377 _ ?side1 ?side2 A11.out).mono ?_); (case side1 => repeat (first | exact (Kd.C_below HR0.out HB.out) | (with_reducible refine cA ?_ _) | (with_reducible refine cN ?_ _) | (with_reducible refine cD ?_))); (case side2 => exact HC0.out); rintro e w24 ⟨rfl, hb⟩; refine ⟨_, rfl, ?_⟩; have n0_ := aM (below_step (by repeat (first | (with_reducible first | exact HB.out | apply bA | apply bN | apply bD) | exact HB.out)) hb); clear HB; have HB := n0_; clear n0_; (try clear hb); (try clear hb2); (try clear hk); (try clear hi)) | ((with_reducible refine gate_callee (f := 10) rfl ?_); refine goesL_ (some 100) rfl rfl Tryz.func10 (by kernel_rfl) rfl #[.slice A0 l0.length c0] rfl (by (try simp only [List.map_toArray, List.map_cons, List.map_nil]); first | done | rfl | (simp only [List.length_drop, List.length_take]; rfl)) ?_; (with_reducible refine (spec_LinksByKeys.calls kj3 _ _ l0 t378 t379 _ ?side1 ?side2 A12.out).mono ?_); (case side1 => repeat (first | exact (Kd.C_below HR0.out HB.out) | (with_reducible refine cA ?_ _) | (with_reducible refine cN ?_ _) | (with_reducible refine cD ?_))); (case side2 => exact HC0.out); rintro e w25 ⟨rfl, hb⟩; refine ⟨_, rfl, ?_⟩; have n0_ := aM (below_step (by repeat (first | (with_reducible first | exact HB.out | apply bA | apply bN | apply bD) | exact HB.out)) hb); clear HB; have HB := n0_; clear n0_; (try clear hb); (try clear hb2); (try clear hk); (try clear hi)) | ((with_reducible refine gate_callee (f := 11) rfl ?_); refine goesL_ (some 105) rfl rfl Tryz.func11 (by kernel_rfl) rfl #[.slice A0 l0.length c0] rfl (by (try simp only [List.map_toArray, List.map_cons, List.map_nil]); first | done | rfl | (simp only [List.length_drop, List.length_take]; rfl)) ?_; (with_reducible refine (impl_IsLineOfStates.calls kj3 _ _ l0 t380 t381 _ ?side1 ?side2 A13.out).mono ?_); (case side1 => repeat (first | exact (Kd.C_below HR0.out HB.out) | (with_reducible refine cA ?_ _) | (with_reducible refine cN ?_ _) | (with_reducible refine cD ?_))); (case side2 => exact HC0.out); rintro e w26 ⟨rfl, hb⟩; refine ⟨_, rfl, ?_⟩; have n0_ := aM (below_step (by repeat (first | (with_reducible first | exact HB.out | apply bA | apply bN | apply bD) | exact HB.out)) hb); clear HB; have HB := n0_; clear n0_; (try clear hb); (try clear hb2); (try clear hk); (try clear hi)) | ((with_reducible refine gate_callee (f := 12) rfl ?_); refine goesL_ (some 110) rfl rfl Tryz.func12 (by kernel_rfl) rfl #[.slice A0 l0.length c0] rfl (by (try simp only [List.map_toArray, List.map_cons, List.map_nil]); first | done | rfl | (simp only [List.length_drop, List.length_take]; rfl)) ?_; (with_reducible refine (spec_IsLineOfStates.calls kj3 _ _ l0 t382 t383 _ ?side1 ?side2 A14.out).mono ?_); (case side1 => repeat (first | exact (Kd.C_below HR0.out HB.out) | (with_reducible refine cA ?_ _) | (with_reducible refine cN ?_ _) | (with_reducible refine cD ?_))); (case side2 => exact HC0.out); rintro e w27 ⟨rfl, hb⟩; refine ⟨_, rfl, ?_⟩; have n0_ := aM (below_step (by repeat (first | (with_reducible first | exact HB.out | apply bA | apply bN | apply bD) | exact HB.out)) hb); clear HB; have HB := n0_; clear n0_; (try clear hb); (try clear hb2); (try clear hk); (try clear hi)) | ((with_reducible refine gate_callee (f := 13) rfl ?_); refine goesL_ (some 115) rfl rfl Tryz.func13 (by kernel_rfl) rfl #[.slice A0 l0.length c0] rfl (by (try simp only [List.map_toArray, List.map_cons, List.map_nil]); first | done | rfl | (simp only [List.length_drop, List.length_take]; rfl)) ?_; (with_reducible refine (impl_TurnKeys.calls kj3 _ _ l0 t384 t385 _ ?side1 ?side2 A15.out).mono ?_); (case side1 => repeat (first | exact (Kd.C_below HR0.out HB.out) | (with_reducible refine cA ?_ _) | (with_reducible refine cN ?_ _) | (with_reducible refine cD ?_))); (case side2 => exact HC0.out); rintro e w28 ⟨v386, rfl, ho0, hb⟩; refine ⟨_, rfl, ?_⟩; have n0_ := aM (Kd.R_lower ho0 (below_size (by repeat (first | (with_reducible first | exact HB.out | apply bA | apply bN | apply bD) | exact HB.out)))); have n1_ := aM (below_step (by repeat (first | (with_reducible first | exact HB.out | apply bA | apply bN | apply bD) | exact HB.out)) hb); clear HB; have HO387 := n0_; have HB := n1_; clear n0_ n1_; (try clear hb); (try clear hb2); (try clear hk); (try clear hi); (try clear ho0)) | ((with_reducible refine gate_callee (f := 14) rfl ?_); refine goesL_ (some 120) rfl rfl Tryz.func14 (by kernel_rfl) rfl #[.slice A0 l0.length c0] rfl (by (try simp only [List.map_toArray, List.map_cons, List.map_nil]); first | done | rfl | (simp only [List.length_drop, List.length_take]; rfl)) ?_; (with_reducible refine (spec_TurnKeys.calls kj3 _ _ l0 t388 t389 _ ?side1 ?side2 A16.out).mono ?_); (case side1 => repeat (first | exact (Kd.C_below HR0.out HB.out) | (with_reducible refine cA ?_ _) | (with_reducible refine cN ?_ _) | (with_reducible refine cD ?_))); (case side2 => exact HC0.out); rintro e w29 ⟨v390, rfl, ho0, hb⟩; refine ⟨_, rfl, ?_⟩; have n0_ := aM (Kd.R_elder' (by (with_reducible repeat (first | apply rA | apply rN | apply rD)); exact HO387.out) (Kd.R_base ho0) hb); have n1_ := aM (Kd.R_lower (Kd.R_new' ho0 (Kd.R_lt (by (with_reducible repeat (first | apply rA | apply rN | apply rD)); exact HO387.out))) (below_size (by repeat (first | (with_reducible first | exact HB.out | apply bA | apply bN | apply bD) | exact HB.out)))); have n2_ := aM (below_step (by repeat (first | (with_reducible first | exact HB.out | apply bA | apply bN | apply bD) | exact HB.out)) hb); clear HO387; clear HB; have HO387 := n0_; have HO391 := n1_; have HB := n2_; clear n0_ n1_ n2_; (try clear hb); (try clear hb2); (try clear hk); (try clear hi); (try clear ho0)) | ((with_reducible refine gate_callee (f := 15) rfl ?_); refine goesL_ (some 125) rfl rfl Tryz.func15 (by kernel_rfl) rfl #[.slice A0 l0.length c0] rfl (by (try simp only [List.map_toArray, List.map_cons, List.map_nil]); first | done | rfl | (simp only [List.length_drop, List.length_take]; rfl)) ?_; (with_reducible refine (impl_KeysText.calls kj3 _ _ l0 t392 t393 _ ?side1 ?side2 A17.out).mono ?_); (case side1 => repeat (first | exact (Kd.C_below HR0.out HB.out) | (with_reducible refine cA ?_ _) | (with_reducible refine cN ?_ _) | (with_reducible refine cD ?_))); (case side2 => exact HC0.out); rintro e w30 ⟨rfl, hb⟩; refine ⟨_, rfl, ?_⟩; have n0_ := aM (Kd.R_below (by (with_reducible repeat (first | apply rA | apply rN | apply rD)); exact HO387.out) hb); have n1_ := aM (Kd.R_below (by (with_reducible repeat (first | apply rA | apply rN | apply rD)); exact HO391.out) hb); have n2_ := aM (below_step (by repeat (first | (with_reducible first | exact HB.out | apply bA | apply bN | apply bD) | exact HB.out)) hb); clear HO387; clear HO391; clear HB; have HO387 := n0_; have HO391 := n1_; have HB := n2_; clear n0_ n1_ n2_; (try clear hb); (try clear hb2); (try clear hk); (try clear hi)) | ((with_reducible refine gate_callee (f := 16) rfl ?_); refine goesL_ (some 130) rfl rfl Tryz.func16 (by kernel_rfl) rfl #[.slice A0 l0.length c0] rfl (by (try simp only [List.map_toArray, List.map_cons, List.map_nil]); first | done | rfl | (simp only [List.length_drop, List.length_take]; rfl)) ?_; (with_reducible refine (spec_KeysText.calls kj3 _ _ l0 t394 t395 _ ?side1 ?side2 A18.out).mono ?_); (case side1 => repeat (first | exact (Kd.C_below HR0.out HB.out) | (with_reducible refine cA ?_ _) | (with_reducible refine cN ?_ _) | (with_reducible refine cD ?_))); (case side2 => exact HC0.out); rintro e w' ⟨rfl, ⟨nd, rfl⟩⟩; refine ⟨_, rfl, ?_⟩))
       (try simp only [Act.put, sA, sB, sC])
       go_cut [222] (fun v222 wc => ∃ (kq : Nat) (x222_18 : Bool), v222 = .bool x222_18 ∧ Aside0 (laws_FnKeysToldOfAll.j1 kq l0 a1 a2 t368 t369 t372 t376 t380 t384 t392 x222_18 = some r) ∧ Aside0 (kq ≤ kj3) ∧ Aside0 (Kd.R Kd.string 9 wc w.heap.size (fun _ => True) v386 t384) ∧ Aside0 (Below w.heap.size w wc))
       case first =>
        as_aux_lemma =>
         have H := HC19.out
         clear HC19
         by_cases c31 : (t369 != t371) = true
         ·rw [if_pos c31] at H
          exact absurd H (by simp)
         ·as_aux_lemma =>
           rw [if_neg c31] at H
           have c31b0 : (t369 != t371) = false := by simpa using c31
           (try (have c31b1 : decide (t369 = t371) = true := by simpa using c31))
           (try (have c31b2 : (t369 == t371) = true := by simpa using c31))
           clear c31
           (first | rw [c31b0] | (simp only [i64_w, i32_w]; rw [c31b0]) | skip)
           by_cases c32 : t368 = t370
           ·as_aux_lemma =>
             rw [if_pos c32] at H
             have c32b0 : (t368 == t370) = true := beq_iff_eq.mpr c32
             have c32b1 : (t368 != t370) = false := bne_eq_false_iff_eq.mpr c32
             clear c32
             by_cases c33 : (t373 != t375) = true
             ·rw [if_pos c33] at H
              exact absurd H (by simp)
             ·as_aux_lemma =>
               rw [if_neg c33] at H
               have c33b0 : (t373 != t375) = false := by simpa using c33
               (try (have c33b1 : decide (t373 = t375) = true := by simpa using c33))
               (try (have c33b2 : (t373 == t375) = true := by simpa using c33))
               clear c33
               by_cases c34 : t372 = t374
               ·as_aux_lemma =>
                 rw [if_pos c34] at H
                 have c34b0 : (t372 == t374) = true := beq_iff_eq.mpr c34
                 have c34b1 : (t372 != t374) = false := bne_eq_false_iff_eq.mpr c34
                 clear c34
                 by_cases c35 : (t377 != t379) = true
                 ·rw [if_pos c35] at H
                  exact absurd H (by simp)
                 ·as_aux_lemma =>
                   rw [if_neg c35] at H
                   have c35b0 : (t377 != t379) = false := by simpa using c35
                   (try (have c35b1 : decide (t377 = t379) = true := by simpa using c35))
                   (try (have c35b2 : (t377 == t379) = true := by simpa using c35))
                   clear c35
                   by_cases c36 : t376 = t378
                   ·as_aux_lemma =>
                     rw [if_pos c36] at H
                     have c36b0 : (t376 == t378) = true := beq_iff_eq.mpr c36
                     have c36b1 : (t376 != t378) = false := bne_eq_false_iff_eq.mpr c36
                     clear c36
                     by_cases c37 : (t381 != t383) = true
                     ·rw [if_pos c37] at H
                      exact absurd H (by simp)
                     ·as_aux_lemma =>
                       rw [if_neg c37] at H
                       have c37b0 : (t381 != t383) = false := by simpa using c37
                       (try (have c37b1 : decide (t381 = t383) = true := by simpa using c37))
                       (try (have c37b2 : (t381 == t383) = true := by simpa using c37))
                       clear c37
                       by_cases c38 : (t380 != t382) = true
                       ·rw [if_pos c38] at H
                        exact absurd H (by simp)
                       ·as_aux_lemma =>
                         rw [if_neg c38] at H
                         have c38b0 : (t380 != t382) = false := by simpa using c38
                         (try (have c38b1 : decide (t380 = t382) = true := by simpa using c38))
                         (try (have c38b2 : (t380 == t382) = true := by simpa using c38))
                         clear c38
                         by_cases c39 : (t385 != t389) = true
                         ·rw [if_pos c39] at H
                          exact absurd H (by simp)
                         ·as_aux_lemma =>
                           rw [if_neg c39] at H
                           have c39b0 : (t385 != t389) = false := by simpa using c39
                           (try (have c39b1 : decide (t385 = t389) = true := by simpa using c39))
                           (try (have c39b2 : (t385 == t389) = true := by simpa using c39))
                           clear c39
                           replace H := Option.bind_eq_some_iff.mp H
                           obtain ⟨t396, A400, H⟩ := H
                           replace H : (if t396 = true then (if (t393 != t395) = true then (none) else (if t392.toList = t394.toList then ((impl_AreKeys.f kj3 l0).bind fun t397 => (if (t369 != t397) = true then (none) else (if (t373 != t369) = true then (none) else (if (t377 != t369) = true then (none) else (if (t381 != t369) = true then (none) else (if (t385 != t369) = true then (none) else (laws_FnKeysToldOfAll.j1 kj3 l0 a1 a2 t368 t369 t372 t376 t380 t384 t392 (t393 != t369)))))))) else (none))) else (none)) = some r := H
                           have A40 := aM A400
                           clear A400
                           by_cases c41 : t396 = true
                           ·as_aux_lemma =>
                             subst c41
                             have H1 : (if (t393 != t395) = true then (none) else (if t392.toList = t394.toList then ((impl_AreKeys.f kj3 l0).bind fun t397 => (if (t369 != t397) = true then (none) else (if (t373 != t369) = true then (none) else (if (t377 != t369) = true then (none) else (if (t381 != t369) = true then (none) else (if (t385 != t369) = true then (none) else (laws_FnKeysToldOfAll.j1 kj3 l0 a1 a2 t368 t369 t372 t376 t380 t384 t392 (t393 != t369)))))))) else (none))) = some r := by rw [if_pos rfl] at H; exact H
                             clear H; have H := H1; clear H1
                             by_cases c42 : (t393 != t395) = true
                             ·rw [if_pos c42] at H
                              exact absurd H (by simp)
                             ·as_aux_lemma =>
                               rw [if_neg c42] at H
                               have c42b0 : (t393 != t395) = false := by simpa using c42
                               (try (have c42b1 : decide (t393 = t395) = true := by simpa using c42))
                               (try (have c42b2 : (t393 == t395) = true := by simpa using c42))
                               clear c42
                               by_cases c45 : t392.toList = t394.toList
                               ·rw [if_pos c45] at H
                                have c45b0 : (t392.toList == t394.toList) = true := beq_iff_eq.mpr c45
                                have c45b1 : (t392.toList != t394.toList) = false := bne_eq_false_iff_eq.mpr c45
                                clear c45
                                replace H := Option.bind_eq_some_iff.mp H
                                obtain ⟨t397, A460, H⟩ := H
                                replace H : (if (t369 != t397) = true then (none) else (if (t373 != t369) = true then (none) else (if (t377 != t369) = true then (none) else (if (t381 != t369) = true then (none) else (if (t385 != t369) = true then (none) else (laws_FnKeysToldOfAll.j1 kj3 l0 a1 a2 t368 t369 t372 t376 t380 t384 t392 (t393 != t369))))))) = some r := H
                                have A46 := aM A460
                                clear A460
                                by_cases c47 : (t369 != t397) = true
                                ·rw [if_pos c47] at H
                                 exact absurd H (by simp)
                                ·rw [if_neg c47] at H
                                 have c47b0 : (t369 != t397) = false := by simpa using c47
                                 (try (have c47b1 : decide (t369 = t397) = true := by simpa using c47))
                                 (try (have c47b2 : (t369 == t397) = true := by simpa using c47))
                                 clear c47
                                 by_cases c51 : (t373 != t369) = true
                                 ·rw [if_pos c51] at H
                                  exact absurd H (by simp)
                                 ·rw [if_neg c51] at H
                                  have c51b0 : (t373 != t369) = false := by simpa using c51
                                  (try (have c51b1 : decide (t373 = t369) = true := by simpa using c51))
                                  (try (have c51b2 : (t373 == t369) = true := by simpa using c51))
                                  clear c51
                                  by_cases c55 : (t377 != t369) = true
                                  ·rw [if_pos c55] at H
                                   exact absurd H (by simp)
                                  ·rw [if_neg c55] at H
                                   have c55b0 : (t377 != t369) = false := by simpa using c55
                                   (try (have c55b1 : decide (t377 = t369) = true := by simpa using c55))
                                   (try (have c55b2 : (t377 == t369) = true := by simpa using c55))
                                   clear c55
                                   by_cases c59 : (t381 != t369) = true
                                   ·rw [if_pos c59] at H
                                    exact absurd H (by simp)
                                   ·rw [if_neg c59] at H
                                    have c59b0 : (t381 != t369) = false := by simpa using c59
                                    (try (have c59b1 : decide (t381 = t369) = true := by simpa using c59))
                                    (try (have c59b2 : (t381 == t369) = true := by simpa using c59))
                                    clear c59
                                    by_cases c63 : (t385 != t369) = true
                                    ·rw [if_pos c63] at H
                                     exact absurd H (by simp)
                                    ·as_aux_lemma =>
                                      rw [if_neg c63] at H
                                      have c63b0 : (t385 != t369) = false := by simpa using c63
                                      (try (have c63b1 : decide (t385 = t369) = true := by simpa using c63))
                                      (try (have c63b2 : (t385 == t369) = true := by simpa using c63))
                                      clear c63
                                      have H' := aM H
                                      clear H
                                      obtain ⟨Ao67, co67, eo67⟩ := Kd.R_slice HO387.out
                                      subst eo67
                                      obtain ⟨Ao68, co68, eo68⟩ := Kd.R_slice HO391.out
                                      subst eo68
                                      go_wp2_with (first | (go_at_call 17; (with_reducible refine (laws_yTexts.calls kj3 _ _ t384 _ _ t388 true _ ?side1 ?side2 ?side3 ?side4 A40.out).mono ?_); (case side1 => repeat (first | exact (Kd.R_reads' HO387.out).2.2 | (with_reducible refine cA ?_ _) | (with_reducible refine cN ?_ _) | (with_reducible refine cD ?_))); (case side2 => exact (Kd.R_reads' HO387.out).2.1); (case side3 => repeat (first | exact (Kd.R_reads' HO391.out).2.2 | (with_reducible refine cA ?_ _) | (with_reducible refine cN ?_ _) | (with_reducible refine cD ?_))); (case side4 => exact (Kd.R_reads' HO391.out).2.1); rintro e w' ⟨rfl, ⟨nd, rfl⟩⟩) | (go_at_call 18; (with_reducible refine (impl_AreKeys.calls kj3 _ _ l0 t397 _ ?side1 ?side2 A46.out).mono ?_); (case side1 => repeat (first | exact (Kd.C_below HR0.out (by repeat (first | (with_reducible first | exact HB.out | apply bA | apply bN | apply bD) | exact HB.out))) | (with_reducible refine cA ?_ _) | (with_reducible refine cN ?_ _) | (with_reducible refine cD ?_))); (case side2 => exact HC0.out); rintro e w69 ⟨rfl, hb⟩; have n0_ := aM (Kd.R_below (by (with_reducible repeat (first | apply rA | apply rN | apply rD)); exact HO387.out) hb); have n1_ := aM (Kd.R_below (by (with_reducible repeat (first | apply rA | apply rN | apply rD)); exact HO391.out) hb); have n2_ := aM (below_step (by repeat (first | (with_reducible first | exact HB.out | apply bA | apply bN | apply bD) | exact HB.out)) hb); clear HO387; clear HO391; clear HB; have HO387 := n0_; have HO391 := n1_; have HB := n2_; clear n0_ n1_ n2_; (try clear hb); (try clear hb2); (try clear hk); (try clear hi)))
                                      go_meet
                                      case rel => exact ⟨_, ((t393 != t369)), (by first | rfl | (simp; done) | (simp [*]; done)), H', ⟨by have := HJ3.out; first | omega | exact Nat.le_refl _⟩, ⟨by (with_reducible repeat (first | apply rA | apply rN | apply rD)); exact Kd.R_mono HO387.out (fun _ hk => trivial)⟩, ⟨by repeat (first | (with_reducible first | exact HB.out | apply bA | apply bN | apply bD) | exact HB.out)⟩⟩
                               ·rw [if_neg c45] at H
                                exact absurd H (by simp)
                           ·replace c41 := Bool.eq_false_iff.mpr c41
                            subst c41
                            have H1 : (none) = some r := by rw [if_neg (show ¬ (false = true) by decide)] at H; exact H
                            exact absurd H1 (by simp)
                   ·rw [if_neg c36] at H
                    exact absurd H (by simp)
               ·rw [if_neg c34] at H
                exact absurd H (by simp)
           ·rw [if_neg c32] at H
            exact absurd H (by simp)
       case rest =>
        rename_i za_ zb_ zc_ zd_ ze_ zf_ zg_ zh_ zi_ zj_ zk_ zl_ zm_ zn_ zo_ zp_ zq_ zr_ zs_ zt_ zu_ zv_ zw_ zx_ zy_ zz_ z0_ z1_ z2_ z3_ z4_ z5_ z6_ z7_ z8_ z9_ zba_ zbb_ zbc_ zbd_ zbe_ zbf_ zbg_ zbh_ zbi_ zbj_ zbk_ zbl_ zbm_ zbn_ zbo_ zbp_ zbq_ zbr_ zbs_ zbt_ zbu_ zbv_ zbw_ zbx_ zby_ zbz_ zb0_ zb1_ zb2_ zb3_ zb4_ zb5_ zb6_ zb7_ zb8_ zb9_ zca_ zcb_ zcc_ zcd_ zce_ zcf_ zcg_ zch_ zci_ zcj_ zck_ zcl_ zcm_ zcn_ zco_ zcp_ zcq_ zcr_ zcs_ zct_ zcu_ zcv_ zcw_ zcx_ zcy_ zcz_ zc0_ zc1_ zc2_ zc3_ zc4_ zc5_ zc6_ zc7_ zc8_ zc9_ zda_ zdb_ zdc_ zdd_ zde_ zdf_ zdg_ zdh_ zdi_ zdj_ zdk_ zdl_ zdm_ zdn_ zdo_ zdp_ zdq_ zdr_ zds_ zdt_ zdu_ zdv_ zdw_ zdx_ zdy_ zdz_ zd0_ zd1_ zd2_ zd3_ zd4_ zd5_ zd6_ zd7_ zd8_ zd9_ zea_ zeb_ zec_ zed_ zee_ zef_ zeg_ zeh_ zei_ zej_ zek_ zel_ zem_ zen_ zeo_ zep_ zeq_ zer_ zes_ zet_ zeu_ zev_ zew_ zex_ zey_ zez_ ze0_ ze1_ ze2_ ze3_ ze4_ ze5_ ze6_ ze7_ ze8_ ze9_ zfa_ zfb_ zfc_ zfd_ zfe_ zff_ zfg_ zfh_ zfi_ zfj_ zfk_ zfl_ zfm_ zfn_ zfo_ zfp_ zfq_ zfr_ zfs_ zft_ zfu_ zfv_ zfw_ zfx_ zfy_ zfz_ zf0_ zf1_ zf2_ zf3_ zf4_ zf5_ zf6_ zf7_ zf8_ zf9_ zga_ zgb_ zgc_ zgd_ zge_ zgf_ zgg_ zgh_ zgi_ zgj_ zgk_ zgl_ zgm_ zgn_ zgo_ zgp_ zgq_ zgr_ zgs_ zgt_ zgu_ zgv_ zgw_ zgx_ zgy_ zgz_ zg0_ zg1_ zg2_ zg3_ zg4_ zg5_ zg6_ zg7_ zg8_ zg9_ zha_ zhb_ zhc_ zhd_ zhe_ zhf_ zhg_ zhh_ zhi_ zhj_ zhk_ zhl_ zhm_ zhn_ zho_ zhp_ zhq_ zhr_ zhs_ zht_ zhu_ zhv_ zhw_ zhx_ zhy_ zhz_ zh0_ zh1_ zh2_ zh3_ zh4_ zh5_ zh6_ zh7_ zh8_ zh9_ zia_ zib_ zic_ zid_ zie_ zif_ zig_ zih_ zii_ zij_ zik_ zil_ zim_ zin_ zio_ zip_ ziq_ zir_ zis_ zit_ ziu_ ziv_ ziw_ zix_ ziy_ ziz_ zi0_ zi1_ zi2_ zi3_ zi4_ zi5_ zi6_ zi7_ zi8_ zi9_ zja_ zjb_ zjc_ zjd_ zje_ zjf_ zjg_ zjh_ zji_ zjj_ zjk_ zjl_ zjm_ zjn_ zjo_ zjp_ zjq_ zjr_ zjs_ zjt_ zju_ zjv_ zjw_ zjx_ zjy_ zjz_ zj0_ zj1_ zj2_ zj3_ zj4_ zj5_ zj6_ zj7_ zj8_ zj9_ zka_ zkb_ zkc_ zkd_ zke_ zkf_ zkg_ zkh_ zki_ zkj_ zkk_ zkl_ zkm_ zkn_ zko_ zkp_ zkq_ zkr_ zks_ zkt_ zku_ zkv_ zkw_ zkx_ zky_ zkz_ zk0_ zk1_ zk2_ zk3_ zk4_ zk5_ zk6_ zk7_ zk8_ zk9_ zla_ zlb_ zlc_ zld_ zle_ zlf_ zlg_ zlh_ zli_ zlj_ zlk_ zll_ zlm_ zln_ zlo_ zlp_ zlq_ zlr_ zls_ zlt_ zlu_ zlv_ zlw_ zlx_
        revert k A0 c0 l0 a1 a2 r w HR0 HC0 za_ zb_ zc_ zd_ ze_ zf_ zg_ zh_ zi_ zj_ zk_ zl_ zm_ zn_ zo_ zp_ zq_ zr_ zs_ zt_ zu_ zv_ zw_ zx_ zy_ zz_ z0_ z1_ z2_ z3_ z4_ z5_ z6_ z7_ z8_ z9_ zba_ zbb_ zbc_ zbd_ zbe_ zbf_ zbg_ zbh_ zbi_ zbj_ zbk_ zbl_ zbm_ zbn_ zbo_ zbp_ zbq_ zbr_ zbs_ zbt_ zbu_ zbv_ zbw_ zbx_ zby_ zbz_ zb0_ zb1_ zb2_ zb3_ zb4_ zb5_ zb6_ zb7_ zb8_ zb9_ zca_ zcb_ zcc_ zcd_ zce_ zcf_ zcg_ zch_ zci_ zcj_ zck_ zcl_ zcm_ zcn_ zco_ zcp_ zcq_ zcr_ zcs_ zct_ zcu_ zcv_ zcw_ zcx_ zcy_ zcz_ zc0_ zc1_ zc2_ zc3_ zc4_ zc5_ zc6_ zc7_ zc8_ zc9_ zda_ zdb_ zdc_ zdd_ zde_ zdf_ zdg_ zdh_ zdi_ zdj_ zdk_ zdl_ zdm_ zdn_ zdo_ zdp_ zdq_ zdr_ zds_ zdt_ zdu_ zdv_ zdw_ zdx_ zdy_ zdz_ zd0_ zd1_ zd2_ zd3_ zd4_ zd5_ zd6_ zd7_ zd8_ zd9_ zea_ zeb_ zec_ zed_ zee_ zef_ zeg_ zeh_ zei_ zej_ zek_ zel_ zem_ zen_ zeo_ zep_ zeq_ zer_ zes_ zet_ zeu_ zev_ zew_ zex_ zey_ zez_ ze0_ ze1_ ze2_ ze3_ ze4_ ze5_ ze6_ ze7_ ze8_ ze9_ zfa_ zfb_ zfc_ zfd_ zfe_ zff_ zfg_ zfh_ zfi_ zfj_ zfk_ zfl_ zfm_ zfn_ zfo_ zfp_ zfq_ zfr_ zfs_ zft_ zfu_ zfv_ zfw_ zfx_ zfy_ zfz_ zf0_ zf1_ zf2_ zf3_ zf4_ zf5_ zf6_ zf7_ zf8_ zf9_ zga_ zgb_ zgc_ zgd_ zge_ zgf_ zgg_ zgh_ zgi_ zgj_ zgk_ zgl_ zgm_ zgn_ zgo_ zgp_ zgq_ zgr_ zgs_ zgt_ zgu_ zgv_ zgw_ zgx_ zgy_ zgz_ zg0_ zg1_ zg2_ zg3_ zg4_ zg5_ zg6_ zg7_ zg8_ zg9_ zha_ zhb_ zhc_ zhd_ zhe_ zhf_ zhg_ zhh_ zhi_ zhj_ zhk_ zhl_ zhm_ zhn_ zho_ zhp_ zhq_ zhr_ zhs_ zht_ zhu_ zhv_ zhw_ zhx_ zhy_ zhz_ zh0_ zh1_ zh2_ zh3_ zh4_ zh5_ zh6_ zh7_ zh8_ zh9_ zia_ zib_ zic_ zid_ zie_ zif_ zig_ zih_ zii_ zij_ zik_ zil_ zim_ zin_ zio_ zip_ ziq_ zir_ zis_ zit_ ziu_ ziv_ ziw_ zix_ ziy_ ziz_ zi0_ zi1_ zi2_ zi3_ zi4_ zi5_ zi6_ zi7_ zi8_ zi9_ zja_ zjb_ zjc_ zjd_ zje_ zjf_ zjg_ zjh_ zji_ zjj_ zjk_ zjl_ zjm_ zjn_ zjo_ zjp_ zjq_ zjr_ zjs_ zjt_ zju_ zjv_ zjw_ zjx_ zjy_ zjz_ zj0_ zj1_ zj2_ zj3_ zj4_ zj5_ zj6_ zj7_ zj8_ zj9_ zka_ zkb_ zkc_ zkd_ zke_ zkf_ zkg_ zkh_ zki_ zkj_ zkk_ zkl_ zkm_ zkn_ zko_ zkp_ zkq_ zkr_ zks_ zkt_ zku_ zkv_ zkw_ zkx_ zky_ zkz_ zk0_ zk1_ zk2_ zk3_ zk4_ zk5_ zk6_ zk7_ zk8_ zk9_ zla_ zlb_ zlc_ zld_ zle_ zlf_ zlg_ zlh_ zli_ zlj_ zlk_ zll_ zlm_ zln_ zlo_ zlp_ zlq_ zlr_ zls_ zlt_ kj3 HJ3 t368 t369 A7 t370 t371 A8 t372 t373 A9 t374 t375 A10 t376 t377 A11 t378 t379 A12 t380 t381 A13 t382 t383 A14 t384 t385 A15 t388 t389 A16 t392 t393 A17 t394 t395 A18 HC19 w20 w21 w22 w23 w24 w25 w26 w27 w28 v386 w29 v390 w30 HO387 HO391 HB nd zlu_ zlv_ zlw_ zlx_ wc u65 u66 u67 u68 u69 u70 u71 u72 u73 u74 u75 u76 u77 u78 u79 u80 u81 u82 u83 u84 u85 u86 u87 u88 u89 u90 u91 u92 u93 u94 u95 u96 u97 u98 u99 u100 u101 u102 u103 u104 u105 u106 u107 u108 u109 u110 u111 u112 u113 u114 u115 u116 u117 u118 u119 u120 u121 u122 u123 u124 u125 u126 u127 u128 u129 u130 u131 u132 u133 u134 u135 u136 u137 u138 u139 u140 u141 u142 u143 u144 u145 u146 u147 u148 u149 u150 u151 u152 u153 u154 u155 u156 u157 u158 u159 u160 u161 u162 u163 u164 u165 u166 u167 u168 u169 u170 u171 u172 u173 u174 u175 u176 u177 u178 u179 u180 u181 u182 u183 u184 u185 u186 u187 u188 u189 u190 u191 u192 u193 u194 u195 u196 u197 u198 u199 u200 u201 u202 u203 u204 u205 u206 u207 u208 u209 u210 u211 u212 u213 u214 u215 u216 u217 u218 u219 u220 u221 u222 u223 u224 u225 u226 u227 u228 u229 u230 u231 u232 u233 u234 u235 u236 u237 u238 u239 u240 u241 u242 u243 u244 u245 u246 u247 u248 u249 u250 u251 u252 u253 u254 u255 u256 u257 u258 u259 u260 u261 u262 u263 u264 u265 u266 u267 u268 u269 u270 u271 u272 u273 u274 u275 u276 u277 u278 u279 u280 u281 u282 u283 u284 u285 u286 u287 u288 u289 u290 u291 u292 u293 u294 u295 u296 u297 u298 u299 u300 u301 u302 u303 u304 u305 u306 u307 u308 u309 u310 u311 u312 u313 u314 u315 u316 u317 u318 u319 u320 u321 u322 u323 u324 u325 u326 u327 u328 u329 u330 u331 u332 u333 u334 u335 u336 u337 u338 u339 u340 u341 u342 u343 u344 u345 u346 u347 u348 u349 u350 u351 u352 u353 u354 u355 u356 u357 u358 u359 u360 u361 u362 u363 u364 u365 u366 u367 u368 u369 u370 u371 u372 u373 u374 u375 u376 u377 u378 u379 u380 u381 u382 u383 u384 u385 u386 u387 u388 u389 u390 u391 u392 u393 u394 u395 u396 u397 u398 u399 u400 u401 u402 u403 u404 u405 u406 u407 u408 u409 u410 u411 u412 u413 u414 u415 u416 u417 u418 u419 u420 u421 u422 u423 u424 u425 u426 u427 u428 u429 u430 u431 u432 u433 u434 u435 u436 u437 u438 u439 u440 u441 u442 u443 u444 u445 u446 u447 u448 u449 u450 u451 u452 u453 u454 u455 u456 u457 u458 u459 u460 u461 u462 u463 u464 u465 u466 u467 u468 u469 u470 u471 u472 u473 u474 u475 u476 u477 u478 hcut
        exact hrest_.out
end Go.Proofs.YtbmbehkdidlolaaGreatDoor.PT
