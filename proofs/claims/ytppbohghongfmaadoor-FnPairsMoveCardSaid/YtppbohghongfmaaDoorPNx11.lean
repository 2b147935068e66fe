-- written by a program of this session's (wip/tools), over the kit's print
import Derived.Test.YtppbohghongfmaaDoorPNx0
import Derived.Test.YtppbohghongfmaaDoorPNx1
import Derived.Test.YtppbohghongfmaaDoorPNx4
import Derived.Test.YtppbohghongfmaaDoorPNx7
import Derived.Test.YtppbohghongfmaaDoorPNx8
import Derived.Test.YtppbohghongfmaaDoorPNx9
import Derived.Test.YtppbohghongfmaaDoorPNx10
-- squeezed
-- squeezed twice
namespace Go.Proofs.YtppbohghongfmaaDoor.PN
open Go.RowKit Go.Proofs.YtppbohghongfmaaDoorW.PrintWords Go.Proofs.YtppbohghongfmaaDoorW.PrintLast Go.Proofs.YtppbohghongfmaaDoorW.PrintMore
attribute [local go_sem] max2_int min2_int max_two min_two max_three min_three max_four min_four   -- for this text's walks alone
set_option linter.unusedVariables false
set_option linter.unusedSimpArgs false

/-! ### laws_FnPairsMove: function 3 -/
mutual
def laws_FnPairsMove.j0 : Nat → List Int → ByteArray → ByteArray → List Int → Bool → Int → Int → Int → Int → Bool → Option (Bool)
 | 0, _, _, _, _, _, _, _, _, _, _ => none
 | k + 1, x1, x5, x6, x7, x8, x11, x15, x19, x23, x205 => if x205 = true then (none) else (if x8 = true then ((impl_PlayPairMoves.f k x5 x7).bind fun bt531 => ((impl_FewestMoves.f k x5 x6).bind fun bt533 => ((impl_FewestPairMoves.f k x6 x5).bind fun bt535 => (laws_FnPairsMove.l0 k x1 x5 x6 x7 x11 x15 x19 x23 bt531.1 bt531.2 bt533.1 bt533.2 bt535.1 bt535.2 0 x7 (x7.length : Int) 0)))) else (laws_FnPairsMove.j5 k x1))
def laws_FnPairsMove.j5 : Nat → List Int → Option (Bool)
 | 0, _ => none
 | k + 1, x1 => (spec_DrawPlayPairMoves.f k x1).bind fun bt550 => ((impl_PlayPairMoves.f k bt550.1 bt550.2).bind fun bt554 => ((spec_PlayPairMoves.f k bt550.1 bt550.2).bind fun bt556 => ((spec_DrawPairMovesOf.f k x1).bind fun t558 => ((impl_PairMovesOf.f k t558).bind fun bt559 => ((spec_PairMovesOf.f k t558).bind fun bt563 => ((spec_DrawMakePairMove.f k x1).bind fun bt567 => ((impl_MakePairMove.f bt567.1 bt567.2).bind fun bt569 => ((spec_MakePairMove.f k bt567.1 bt567.2).bind fun bt571 => (if (bt554.2 != bt556.2) = true then (none) else (if bt554.1.toList = bt556.1.toList then (if (bt559.2 != bt563.2) = true then (none) else ((laws_ySame.f k bt559.1 bt563.1).bind fun t573 => (if t573 = true then (if (bt569.2 != bt571.2) = true then (none) else (laws_FnPairsMove.j6 k t558 bt559.1 bt559.2 bt567.1 bt567.2 bt569.1 bt569.2 (bt569.1.toList != bt571.1.toList))) else (none)))) else (none)))))))))))
def laws_FnPairsMove.j6 : Nat → ByteArray → List Int → Bool → ByteArray → Int → ByteArray → Bool → Bool → Option (Bool)
 | 0, _, _, _, _, _, _, _, _ => none
 | k + 1, x54, x55, x56, x59, x60, x61, x62, x447 => if x447 = true then (none) else (if x56 = true then ((impl_MovesOf.f k x54).bind fun bt574 => (if bt574.2 = true then ((laws_yHas.f k x55 (-1)).bind fun t578 => (if 0 < (x54.size : Int) then (if 1 < (x54.size : Int) then (if (t578 != ((bt x54 0) == (bt x54 1))) = true then (none) else ((laws_ySum.f k x55).bind fun t579 => ((laws_ySum.f k bt574.1).bind fun t580 => (laws_FnPairsMove.j7 k x59 x60 x61 x62 (t579 != (wrap64 (t580 - (wrap64 ((x55.length : Int) - (bt574.1.length : Int)))))))))) else (none)) else (none))) else (none))) else (if x62 = true then ((impl_MakePairMove.f x61 x60).bind fun bt583 => (if bt583.2 = true then (some (bt583.1.toList == x59.toList)) else (none))) else (some true)))
def laws_FnPairsMove.j7 : Nat → ByteArray → Int → ByteArray → Bool → Bool → Option (Bool)
 | 0, _, _, _, _, _ => none
 | k + 1, x59, x60, x61, x62, x478 => if x478 = true then (none) else (if x62 = true then ((impl_MakePairMove.f x61 x60).bind fun bt581 => (if bt581.2 = true then (some (bt581.1.toList == x59.toList)) else (none))) else (some true))
def laws_FnPairsMove.l0 : Nat → List Int → ByteArray → ByteArray → List Int → Int → Int → Int → Int → ByteArray → Bool → Int → Bool → Int → Bool → Int → List Int → Int → Int → Option (Bool)
 | 0, _, _, _, _, _, _, _, _, _, _, _, _, _, _, _, _, _, _ => none
 | k + 1, x1, x5, x6, x7, x11, x15, x19, x23, x27, x28, x29, x30, x31, x32, x33, x225, x226, x227 => if x227 < x226 then (if 0 ≤ x227 then (if x227 < (x225.length : Int) then (if (rd x225 x227) = (-1) then (laws_FnPairsMove.l0 k x1 x5 x6 x7 x11 x15 x19 x23 x27 x28 x29 x30 x31 x32 (wrap64 (x33 + 1)) x225 x226 (wrap64 (x227 + 1))) else (laws_FnPairsMove.l0 k x1 x5 x6 x7 x11 x15 x19 x23 x27 x28 x29 x30 x31 x32 x33 x225 x226 (wrap64 (x227 + 1)))) else (none)) else (none)) else (if x11 ≤ 2000 then (if x28 = true then (if x27.toList = x6.toList then (if (x7.length : Int) = x11 then (if x30 = true then (if (wrap64 (x29 - x11)) = x19 then (if x19 < 0 then (none) else (if x32 = true then (if x31 = x11 then (if x15 < 1 then (none) else (if x33 = x23 then (laws_FnPairsMove.j2 k x1 x5 x6 x7 x11 x15 (decide (x19 > x23))) else (none))) else (none)) else (none))) else (none)) else (none)) else (none)) else (none)) else (none)) else (if (x7.length : Int) = x11 then (if x30 = true then (if (wrap64 (x29 - x11)) = x19 then (if x19 < 0 then (none) else (if x32 = true then (if x31 = x11 then (if x15 < 1 then (none) else (if x33 = x23 then (laws_FnPairsMove.j2 k x1 x5 x6 x7 x11 x15 (decide (x19 > x23))) else (none))) else (none)) else (none))) else (none)) else (none)) else (none)))
def laws_FnPairsMove.j2 : Nat → List Int → ByteArray → ByteArray → List Int → Int → Int → Bool → Option (Bool)
 | 0, _, _, _, _, _, _, _ => none
 | k + 1, x1, x5, x6, x7, x11, x15, x290 => if x290 = true then (none) else ((impl_PairMovesOf.f k x5).bind fun bt538 => (laws_FnPairsMove.l1 k x1 x5 x6 x7 x11 x15 bt538.2 (-1) 0 bt538.1 (bt538.1.length : Int) 0))
def laws_FnPairsMove.l1 : Nat → List Int → ByteArray → ByteArray → List Int → Int → Int → Bool → Int → Int → List Int → Int → Int → Option (Bool)
 | 0, _, _, _, _, _, _, _, _, _, _, _, _ => none
 | k + 1, x1, x5, x6, x7, x11, x15, x37, x38, x39, x296, x297, x298 => if x298 < x297 then (if 0 ≤ x298 then (if x298 < (x296.length : Int) then ((impl_MakePairMove.f x5 (rd x296 x298)).bind fun bt544 => ((impl_FewestPairMoves.f k bt544.1 x6).bind fun bt546 => ((impl_CountPairWays.f k bt544.1 x6).bind fun bt548 => (if bt544.2 = true then (if bt546.2 = true then (if bt548.2 = true then (if bt546.1 < (wrap64 (x11 - 1)) then (none) else (laws_FnPairsMove.j4 k x1 x5 x6 x7 x11 x15 x37 x38 x39 (rd x296 x298) bt546.1 bt548.1 x296 x297 x298 (decide (bt546.1 > (wrap64 (x11 + 1)))))) else (none)) else (none)) else (none))))) else (none)) else (none)) else (if x37 = true then (if x11 > 0 then (if x39 = x15 then (if 0 < (x7.length : Int) then (if (wrap64 ((rd x7 0) + 1)) = x38 then (laws_FnPairsMove.j5 k x1) else (none)) else (none)) else (none)) else (laws_FnPairsMove.j5 k x1)) else (none))
def laws_FnPairsMove.j4 : Nat → List Int → ByteArray → ByteArray → List Int → Int → Int → Bool → Int → Int → Int → Int → Int → List Int → Int → Int → Bool → Option (Bool)
 | 0, _, _, _, _, _, _, _, _, _, _, _, _, _, _, _, _ => none
 | k + 1, x1, x5, x6, x7, x11, x15, x37, x38, x39, x41, x44, x46, x296, x297, x298, x341 => if x341 = true then (none) else (if x44 = (wrap64 (x11 - 1)) then (if x38 < 0 then (laws_FnPairsMove.l1 k x1 x5 x6 x7 x11 x15 x37 (wrap64 (x41 + 1)) (wrap64 (x39 + x46)) x296 x297 (wrap64 (x298 + 1))) else (laws_FnPairsMove.l1 k x1 x5 x6 x7 x11 x15 x37 x38 (wrap64 (x39 + x46)) x296 x297 (wrap64 (x298 + 1)))) else (laws_FnPairsMove.l1 k x1 x5 x6 x7 x11 x15 x37 x38 x39 x296 x297 (wrap64 (x298 + 1))))
end
def laws_FnPairsMove.f (k : Nat) (l0 : List Int) (l1 : List Int) : Option (Bool) := (laws_big.f l0 l1).bind fun t503 => (if t503 = true then (some true) else ((spec_DrawFirstPairMoves.f k l0).bind fun bt504 => ((impl_FirstPairMoves.f k bt504.1 bt504.2).bind fun bt506 => ((spec_FirstPairMoves.f k bt504.1 bt504.2).bind fun bt510 => ((impl_FewestPairMoves.f k bt504.1 bt504.2).bind fun bt514 => ((spec_FewestPairMoves.f k bt504.1 bt504.2).bind fun bt516 => ((impl_CountPairWays.f k bt504.1 bt504.2).bind fun bt518 => ((spec_CountPairWays.f k bt504.1 bt504.2).bind fun bt520 => ((impl_SavedByPairs.f k bt504.1 bt504.2).bind fun bt522 => ((spec_SavedByPairs.f k bt504.1 bt504.2).bind fun bt524 => ((impl_PairsUsed.f k bt504.1 bt504.2).bind fun bt526 => ((spec_PairsUsed.f k bt504.1 bt504.2).bind fun bt528 => (if (bt506.2 != bt510.2) = true then (none) else ((laws_ySame.f k bt506.1 bt510.1).bind fun t530 => (if t530 = true then (if (bt514.2 != bt516.2) = true then (none) else (if bt514.1 = bt516.1 then (if (bt518.2 != bt520.2) = true then (none) else (if bt518.1 = bt520.1 then (if (bt522.2 != bt524.2) = true then (none) else (if bt522.1 = bt524.1 then (if (bt526.2 != bt528.2) = true then (none) else (if bt526.1 = bt528.1 then (if (bt514.2 != bt506.2) = true then (none) else (if (bt518.2 != bt506.2) = true then (none) else (if (bt522.2 != bt506.2) = true then (none) else (laws_FnPairsMove.j0 k l1 bt504.1 bt504.2 bt506.1 bt506.2 bt514.1 bt518.1 bt522.1 bt526.1 (bt526.2 != bt506.2))))) else (none))) else (none))) else (none))) else (none))) else (none))))))))))))))))
theorem laws_FnPairsMove.mono_l : ∀ k, (∀ y0 y1 y2 y3 y4 y5 y6 y7 y8 y9, LeO (laws_FnPairsMove.j0 k y0 y1 y2 y3 y4 y5 y6 y7 y8 y9) (laws_FnPairsMove.j0 (k + 1) y0 y1 y2 y3 y4 y5 y6 y7 y8 y9)) ∧ (∀ y0, LeO (laws_FnPairsMove.j5 k y0) (laws_FnPairsMove.j5 (k + 1) y0)) ∧ (∀ y0 y1 y2 y3 y4 y5 y6 y7, LeO (laws_FnPairsMove.j6 k y0 y1 y2 y3 y4 y5 y6 y7) (laws_FnPairsMove.j6 (k + 1) y0 y1 y2 y3 y4 y5 y6 y7)) ∧ (∀ y0 y1 y2 y3 y4, LeO (laws_FnPairsMove.j7 k y0 y1 y2 y3 y4) (laws_FnPairsMove.j7 (k + 1) y0 y1 y2 y3 y4)) ∧ (∀ y0 y1 y2 y3 y4 y5 y6 y7 y8 y9 y10 y11 y12 y13 y14 y15 y16 y17, LeO (laws_FnPairsMove.l0 k y0 y1 y2 y3 y4 y5 y6 y7 y8 y9 y10 y11 y12 y13 y14 y15 y16 y17) (laws_FnPairsMove.l0 (k + 1) y0 y1 y2 y3 y4 y5 y6 y7 y8 y9 y10 y11 y12 y13 y14 y15 y16 y17)) ∧ (∀ y0 y1 y2 y3 y4 y5 y6, LeO (laws_FnPairsMove.j2 k y0 y1 y2 y3 y4 y5 y6) (laws_FnPairsMove.j2 (k + 1) y0 y1 y2 y3 y4 y5 y6)) ∧ (∀ y0 y1 y2 y3 y4 y5 y6 y7 y8 y9 y10 y11, LeO (laws_FnPairsMove.l1 k y0 y1 y2 y3 y4 y5 y6 y7 y8 y9 y10 y11) (laws_FnPairsMove.l1 (k + 1) y0 y1 y2 y3 y4 y5 y6 y7 y8 y9 y10 y11)) ∧ (∀ y0 y1 y2 y3 y4 y5 y6 y7 y8 y9 y10 y11 y12 y13 y14 y15, LeO (laws_FnPairsMove.j4 k y0 y1 y2 y3 y4 y5 y6 y7 y8 y9 y10 y11 y12 y13 y14 y15) (laws_FnPairsMove.j4 (k + 1) y0 y1 y2 y3 y4 y5 y6 y7 y8 y9 y10 y11 y12 y13 y14 y15))
 | 0 => ⟨fun _ _ _ _ _ _ _ _ _ _ r h => by simp [laws_FnPairsMove.j0] at h, fun _ r h => by simp [laws_FnPairsMove.j5] at h, fun _ _ _ _ _ _ _ _ r h => by simp [laws_FnPairsMove.j6] at h, fun _ _ _ _ _ r h => by simp [laws_FnPairsMove.j7] at h, fun _ _ _ _ _ _ _ _ _ _ _ _ _ _ _ _ _ _ r h => by simp [laws_FnPairsMove.l0] at h, fun _ _ _ _ _ _ _ r h => by simp [laws_FnPairsMove.j2] at h, fun _ _ _ _ _ _ _ _ _ _ _ _ r h => by simp [laws_FnPairsMove.l1] at h, fun _ _ _ _ _ _ _ _ _ _ _ _ _ _ _ _ r h => by simp [laws_FnPairsMove.j4] at h⟩
 | k + 1 => by
  obtain ⟨ih0, ih1, ih2, ih3, ih4, ih5, ih6, ih7⟩ := laws_FnPairsMove.mono_l k
  refine ⟨?_, ?_, ?_, ?_, ?_, ?_, ?_, ?_⟩
  ·intro y0 y1 y2 y3 y4 y5 y6 y7 y8 y9
   unfold laws_FnPairsMove.j0
   repeat' first
   | (with_reducible exact ih0 _ _ _ _ _ _ _ _ _ _)
   | (with_reducible exact ih1 _)
   | (with_reducible exact ih2 _ _ _ _ _ _ _ _)
   | (with_reducible exact ih3 _ _ _ _ _)
   | (with_reducible exact ih4 _ _ _ _ _ _ _ _ _ _ _ _ _ _ _ _ _ _)
   | (with_reducible exact ih5 _ _ _ _ _ _ _)
   | (with_reducible exact ih6 _ _ _ _ _ _ _ _ _ _ _ _)
   | (with_reducible exact ih7 _ _ _ _ _ _ _ _ _ _ _ _ _ _ _ _)
   | (with_reducible exact impl_CountPairWays.mono _ _ _)
   | (with_reducible exact impl_FewestMoves.mono _ _ _)
   | (with_reducible exact impl_FewestPairMoves.mono _ _ _)
   | (with_reducible exact impl_FirstPairMoves.mono _ _ _)
   | (with_reducible exact impl_MovesOf.mono _ _)
   | (with_reducible exact impl_PairMovesOf.mono _ _)
   | (with_reducible exact impl_PairsUsed.mono _ _ _)
   | (with_reducible exact impl_PlayPairMoves.mono _ _ _)
   | (with_reducible exact impl_SavedByPairs.mono _ _ _)
   | (with_reducible exact laws_yHas.mono _ _ _)
   | (with_reducible exact laws_ySame.mono _ _ _)
   | (with_reducible exact laws_ySum.mono _ _)
   | (with_reducible exact spec_CountPairWays.mono _ _ _)
   | (with_reducible exact spec_DrawFirstPairMoves.mono _ _)
   | (with_reducible exact spec_DrawMakePairMove.mono _ _)
   | (with_reducible exact spec_DrawPairMovesOf.mono _ _)
   | (with_reducible exact spec_DrawPlayPairMoves.mono _ _)
   | (with_reducible exact spec_FewestPairMoves.mono _ _ _)
   | (with_reducible exact spec_FirstPairMoves.mono _ _ _)
   | (with_reducible exact spec_MakePairMove.mono _ _ _)
   | (with_reducible exact spec_PairMovesOf.mono _ _)
   | (with_reducible exact spec_PairsUsed.mono _ _ _)
   | (with_reducible exact spec_PlayPairMoves.mono _ _ _)
   | (with_reducible exact spec_SavedByPairs.mono _ _ _)
   | (with_reducible exact LeO.refl _)
   | (with_reducible exact LeO.none _)
   | (with_reducible refine LeO.ite ?_ ?_)
   | (with_reducible refine LeO.bind ?_ (fun _ => ?_))
   | exact ih0 _ _ _ _ _ _ _ _ _ _
   | exact ih1 _
   | exact ih2 _ _ _ _ _ _ _ _
   | exact ih3 _ _ _ _ _
   | exact ih4 _ _ _ _ _ _ _ _ _ _ _ _ _ _ _ _ _ _
   | exact ih5 _ _ _ _ _ _ _
   | exact ih6 _ _ _ _ _ _ _ _ _ _ _ _
   | exact ih7 _ _ _ _ _ _ _ _ _ _ _ _ _ _ _ _
   | exact impl_CountPairWays.mono _ _ _
   | exact impl_FewestMoves.mono _ _ _
   | exact impl_FewestPairMoves.mono _ _ _
   | exact impl_FirstPairMoves.mono _ _ _
   | exact impl_MovesOf.mono _ _
   | exact impl_PairMovesOf.mono _ _
   | exact impl_PairsUsed.mono _ _ _
   | exact impl_PlayPairMoves.mono _ _ _
   | exact impl_SavedByPairs.mono _ _ _
   | exact laws_yHas.mono _ _ _
   | exact laws_ySame.mono _ _ _
   | exact laws_ySum.mono _ _
   | exact spec_CountPairWays.mono _ _ _
   | exact spec_DrawFirstPairMoves.mono _ _
   | exact spec_DrawMakePairMove.mono _ _
   | exact spec_DrawPairMovesOf.mono _ _
   | exact spec_DrawPlayPairMoves.mono _ _
   | exact spec_FewestPairMoves.mono _ _ _
   | exact spec_FirstPairMoves.mono _ _ _
   | exact spec_MakePairMove.mono _ _ _
   | exact spec_PairMovesOf.mono _ _
   | exact spec_PairsUsed.mono _ _ _
   | exact spec_PlayPairMoves.mono _ _ _
   | exact spec_SavedByPairs.mono _ _ _
   | exact LeO.none _
   | refine LeO.ite ?_ ?_
   | refine LeO.bind ?_ (fun _ => ?_)
  ·intro y0
   unfold laws_FnPairsMove.j5
   repeat' first
   | (with_reducible exact ih0 _ _ _ _ _ _ _ _ _ _)
   | (with_reducible exact ih1 _)
   | (with_reducible exact ih2 _ _ _ _ _ _ _ _)
   | (with_reducible exact ih3 _ _ _ _ _)
   | (with_reducible exact ih4 _ _ _ _ _ _ _ _ _ _ _ _ _ _ _ _ _ _)
   | (with_reducible exact ih5 _ _ _ _ _ _ _)
   | (with_reducible exact ih6 _ _ _ _ _ _ _ _ _ _ _ _)
   | (with_reducible exact ih7 _ _ _ _ _ _ _ _ _ _ _ _ _ _ _ _)
   | (with_reducible exact impl_CountPairWays.mono _ _ _)
   | (with_reducible exact impl_FewestMoves.mono _ _ _)
   | (with_reducible exact impl_FewestPairMoves.mono _ _ _)
   | (with_reducible exact impl_FirstPairMoves.mono _ _ _)
   | (with_reducible exact impl_MovesOf.mono _ _)
   | (with_reducible exact impl_PairMovesOf.mono _ _)
   | (with_reducible exact impl_PairsUsed.mono _ _ _)
   | (with_reducible exact impl_PlayPairMoves.mono _ _ _)
   | (with_reducible exact impl_SavedByPairs.mono _ _ _)
   | (with_reducible exact laws_yHas.mono _ _ _)
   | (with_reducible exact laws_ySame.mono _ _ _)
   | (with_reducible exact laws_ySum.mono _ _)
   | (with_reducible exact spec_CountPairWays.mono _ _ _)
   | (with_reducible exact spec_DrawFirstPairMoves.mono _ _)
   | (with_reducible exact spec_DrawMakePairMove.mono _ _)
   | (with_reducible exact spec_DrawPairMovesOf.mono _ _)
   | (with_reducible exact spec_DrawPlayPairMoves.mono _ _)
   | (with_reducible exact spec_FewestPairMoves.mono _ _ _)
   | (with_reducible exact spec_FirstPairMoves.mono _ _ _)
   | (with_reducible exact spec_MakePairMove.mono _ _ _)
   | (with_reducible exact spec_PairMovesOf.mono _ _)
   | (with_reducible exact spec_PairsUsed.mono _ _ _)
   | (with_reducible exact spec_PlayPairMoves.mono _ _ _)
   | (with_reducible exact spec_SavedByPairs.mono _ _ _)
   | (with_reducible exact LeO.refl _)
   | (with_reducible exact LeO.none _)
   | (with_reducible refine LeO.ite ?_ ?_)
   | (with_reducible refine LeO.bind ?_ (fun _ => ?_))
   | exact ih0 _ _ _ _ _ _ _ _ _ _
   | exact ih1 _
   | exact ih2 _ _ _ _ _ _ _ _
   | exact ih3 _ _ _ _ _
   | exact ih4 _ _ _ _ _ _ _ _ _ _ _ _ _ _ _ _ _ _
   | exact ih5 _ _ _ _ _ _ _
   | exact ih6 _ _ _ _ _ _ _ _ _ _ _ _
   | exact ih7 _ _ _ _ _ _ _ _ _ _ _ _ _ _ _ _
   | exact impl_CountPairWays.mono _ _ _
   | exact impl_FewestMoves.mono _ _ _
   | exact impl_FewestPairMoves.mono _ _ _
   | exact impl_FirstPairMoves.mono _ _ _
   | exact impl_MovesOf.mono _ _
   | exact impl_PairMovesOf.mono _ _
   | exact impl_PairsUsed.mono _ _ _
   | exact impl_PlayPairMoves.mono _ _ _
   | exact impl_SavedByPairs.mono _ _ _
   | exact laws_yHas.mono _ _ _
   | exact laws_ySame.mono _ _ _
   | exact laws_ySum.mono _ _
   | exact spec_CountPairWays.mono _ _ _
   | exact spec_DrawFirstPairMoves.mono _ _
   | exact spec_DrawMakePairMove.mono _ _
   | exact spec_DrawPairMovesOf.mono _ _
   | exact spec_DrawPlayPairMoves.mono _ _
   | exact spec_FewestPairMoves.mono _ _ _
   | exact spec_FirstPairMoves.mono _ _ _
   | exact spec_MakePairMove.mono _ _ _
   | exact spec_PairMovesOf.mono _ _
   | exact spec_PairsUsed.mono _ _ _
   | exact spec_PlayPairMoves.mono _ _ _
   | exact spec_SavedByPairs.mono _ _ _
   | exact LeO.none _
   | refine LeO.ite ?_ ?_
   | refine LeO.bind ?_ (fun _ => ?_)
  ·intro y0 y1 y2 y3 y4 y5 y6 y7
   unfold laws_FnPairsMove.j6
   repeat' first
   | (with_reducible exact ih0 _ _ _ _ _ _ _ _ _ _)
   | (with_reducible exact ih1 _)
   | (with_reducible exact ih2 _ _ _ _ _ _ _ _)
   | (with_reducible exact ih3 _ _ _ _ _)
   | (with_reducible exact ih4 _ _ _ _ _ _ _ _ _ _ _ _ _ _ _ _ _ _)
   | (with_reducible exact ih5 _ _ _ _ _ _ _)
   | (with_reducible exact ih6 _ _ _ _ _ _ _ _ _ _ _ _)
   | (with_reducible exact ih7 _ _ _ _ _ _ _ _ _ _ _ _ _ _ _ _)
   | (with_reducible exact impl_CountPairWays.mono _ _ _)
   | (with_reducible exact impl_FewestMoves.mono _ _ _)
   | (with_reducible exact impl_FewestPairMoves.mono _ _ _)
   | (with_reducible exact impl_FirstPairMoves.mono _ _ _)
   | (with_reducible exact impl_MovesOf.mono _ _)
   | (with_reducible exact impl_PairMovesOf.mono _ _)
   | (with_reducible exact impl_PairsUsed.mono _ _ _)
   | (with_reducible exact impl_PlayPairMoves.mono _ _ _)
   | (with_reducible exact impl_SavedByPairs.mono _ _ _)
   | (with_reducible exact laws_yHas.mono _ _ _)
   | (with_reducible exact laws_ySame.mono _ _ _)
   | (with_reducible exact laws_ySum.mono _ _)
   | (with_reducible exact spec_CountPairWays.mono _ _ _)
   | (with_reducible exact spec_DrawFirstPairMoves.mono _ _)
   | (with_reducible exact spec_DrawMakePairMove.mono _ _)
   | (with_reducible exact spec_DrawPairMovesOf.mono _ _)
   | (with_reducible exact spec_DrawPlayPairMoves.mono _ _)
   | (with_reducible exact spec_FewestPairMoves.mono _ _ _)
   | (with_reducible exact spec_FirstPairMoves.mono _ _ _)
   | (with_reducible exact spec_MakePairMove.mono _ _ _)
   | (with_reducible exact spec_PairMovesOf.mono _ _)
   | (with_reducible exact spec_PairsUsed.mono _ _ _)
   | (with_reducible exact spec_PlayPairMoves.mono _ _ _)
   | (with_reducible exact spec_SavedByPairs.mono _ _ _)
   | (with_reducible exact LeO.refl _)
   | (with_reducible exact LeO.none _)
   | (with_reducible refine LeO.ite ?_ ?_)
   | (with_reducible refine LeO.bind ?_ (fun _ => ?_))
   | exact ih0 _ _ _ _ _ _ _ _ _ _
   | exact ih1 _
   | exact ih2 _ _ _ _ _ _ _ _
   | exact ih3 _ _ _ _ _
   | exact ih4 _ _ _ _ _ _ _ _ _ _ _ _ _ _ _ _ _ _
   | exact ih5 _ _ _ _ _ _ _
   | exact ih6 _ _ _ _ _ _ _ _ _ _ _ _
   | exact ih7 _ _ _ _ _ _ _ _ _ _ _ _ _ _ _ _
   | exact impl_CountPairWays.mono _ _ _
   | exact impl_FewestMoves.mono _ _ _
   | exact impl_FewestPairMoves.mono _ _ _
   | exact impl_FirstPairMoves.mono _ _ _
   | exact impl_MovesOf.mono _ _
   | exact impl_PairMovesOf.mono _ _
   | exact impl_PairsUsed.mono _ _ _
   | exact impl_PlayPairMoves.mono _ _ _
   | exact impl_SavedByPairs.mono _ _ _
   | exact laws_yHas.mono _ _ _
   | exact laws_ySame.mono _ _ _
   | exact laws_ySum.mono _ _
   | exact spec_CountPairWays.mono _ _ _
   | exact spec_DrawFirstPairMoves.mono _ _
   | exact spec_DrawMakePairMove.mono _ _
   | exact spec_DrawPairMovesOf.mono _ _
   | exact spec_DrawPlayPairMoves.mono _ _
   | exact spec_FewestPairMoves.mono _ _ _
   | exact spec_FirstPairMoves.mono _ _ _
   | exact spec_MakePairMove.mono _ _ _
   | exact spec_PairMovesOf.mono _ _
   | exact spec_PairsUsed.mono _ _ _
   | exact spec_PlayPairMoves.mono _ _ _
   | exact spec_SavedByPairs.mono _ _ _
   | exact LeO.none _
   | refine LeO.ite ?_ ?_
   | refine LeO.bind ?_ (fun _ => ?_)
  ·intro y0 y1 y2 y3 y4
   unfold laws_FnPairsMove.j7
   repeat' first
   | (with_reducible exact ih0 _ _ _ _ _ _ _ _ _ _)
   | (with_reducible exact ih1 _)
   | (with_reducible exact ih2 _ _ _ _ _ _ _ _)
   | (with_reducible exact ih3 _ _ _ _ _)
   | (with_reducible exact ih4 _ _ _ _ _ _ _ _ _ _ _ _ _ _ _ _ _ _)
   | (with_reducible exact ih5 _ _ _ _ _ _ _)
   | (with_reducible exact ih6 _ _ _ _ _ _ _ _ _ _ _ _)
   | (with_reducible exact ih7 _ _ _ _ _ _ _ _ _ _ _ _ _ _ _ _)
   | (with_reducible exact impl_CountPairWays.mono _ _ _)
   | (with_reducible exact impl_FewestMoves.mono _ _ _)
   | (with_reducible exact impl_FewestPairMoves.mono _ _ _)
   | (with_reducible exact impl_FirstPairMoves.mono _ _ _)
   | (with_reducible exact impl_MovesOf.mono _ _)
   | (with_reducible exact impl_PairMovesOf.mono _ _)
   | (with_reducible exact impl_PairsUsed.mono _ _ _)
   | (with_reducible exact impl_PlayPairMoves.mono _ _ _)
   | (with_reducible exact impl_SavedByPairs.mono _ _ _)
   | (with_reducible exact laws_yHas.mono _ _ _)
   | (with_reducible exact laws_ySame.mono _ _ _)
   | (with_reducible exact laws_ySum.mono _ _)
   | (with_reducible exact spec_CountPairWays.mono _ _ _)
   | (with_reducible exact spec_DrawFirstPairMoves.mono _ _)
   | (with_reducible exact spec_DrawMakePairMove.mono _ _)
   | (with_reducible exact spec_DrawPairMovesOf.mono _ _)
   | (with_reducible exact spec_DrawPlayPairMoves.mono _ _)
   | (with_reducible exact spec_FewestPairMoves.mono _ _ _)
   | (with_reducible exact spec_FirstPairMoves.mono _ _ _)
   | (with_reducible exact spec_MakePairMove.mono _ _ _)
   | (with_reducible exact spec_PairMovesOf.mono _ _)
   | (with_reducible exact spec_PairsUsed.mono _ _ _)
   | (with_reducible exact spec_PlayPairMoves.mono _ _ _)
   | (with_reducible exact spec_SavedByPairs.mono _ _ _)
   | (with_reducible exact LeO.refl _)
   | (with_reducible exact LeO.none _)
   | (with_reducible refine LeO.ite ?_ ?_)
   | (with_reducible refine LeO.bind ?_ (fun _ => ?_))
   | exact ih0 _ _ _ _ _ _ _ _ _ _
   | exact ih1 _
   | exact ih2 _ _ _ _ _ _ _ _
   | exact ih3 _ _ _ _ _
   | exact ih4 _ _ _ _ _ _ _ _ _ _ _ _ _ _ _ _ _ _
   | exact ih5 _ _ _ _ _ _ _
   | exact ih6 _ _ _ _ _ _ _ _ _ _ _ _
   | exact ih7 _ _ _ _ _ _ _ _ _ _ _ _ _ _ _ _
   | exact impl_CountPairWays.mono _ _ _
   | exact impl_FewestMoves.mono _ _ _
   | exact impl_FewestPairMoves.mono _ _ _
   | exact impl_FirstPairMoves.mono _ _ _
   | exact impl_MovesOf.mono _ _
   | exact impl_PairMovesOf.mono _ _
   | exact impl_PairsUsed.mono _ _ _
   | exact impl_PlayPairMoves.mono _ _ _
   | exact impl_SavedByPairs.mono _ _ _
   | exact laws_yHas.mono _ _ _
   | exact laws_ySame.mono _ _ _
   | exact laws_ySum.mono _ _
   | exact spec_CountPairWays.mono _ _ _
   | exact spec_DrawFirstPairMoves.mono _ _
   | exact spec_DrawMakePairMove.mono _ _
   | exact spec_DrawPairMovesOf.mono _ _
   | exact spec_DrawPlayPairMoves.mono _ _
   | exact spec_FewestPairMoves.mono _ _ _
   | exact spec_FirstPairMoves.mono _ _ _
   | exact spec_MakePairMove.mono _ _ _
   | exact spec_PairMovesOf.mono _ _
   | exact spec_PairsUsed.mono _ _ _
   | exact spec_PlayPairMoves.mono _ _ _
   | exact spec_SavedByPairs.mono _ _ _
   | exact LeO.none _
   | refine LeO.ite ?_ ?_
   | refine LeO.bind ?_ (fun _ => ?_)
  ·intro y0 y1 y2 y3 y4 y5 y6 y7 y8 y9 y10 y11 y12 y13 y14 y15 y16 y17
   unfold laws_FnPairsMove.l0
   repeat' first
   | (with_reducible exact ih0 _ _ _ _ _ _ _ _ _ _)
   | (with_reducible exact ih1 _)
   | (with_reducible exact ih2 _ _ _ _ _ _ _ _)
   | (with_reducible exact ih3 _ _ _ _ _)
   | (with_reducible exact ih4 _ _ _ _ _ _ _ _ _ _ _ _ _ _ _ _ _ _)
   | (with_reducible exact ih5 _ _ _ _ _ _ _)
   | (with_reducible exact ih6 _ _ _ _ _ _ _ _ _ _ _ _)
   | (with_reducible exact ih7 _ _ _ _ _ _ _ _ _ _ _ _ _ _ _ _)
   | (with_reducible exact impl_CountPairWays.mono _ _ _)
   | (with_reducible exact impl_FewestMoves.mono _ _ _)
   | (with_reducible exact impl_FewestPairMoves.mono _ _ _)
   | (with_reducible exact impl_FirstPairMoves.mono _ _ _)
   | (with_reducible exact impl_MovesOf.mono _ _)
   | (with_reducible exact impl_PairMovesOf.mono _ _)
   | (with_reducible exact impl_PairsUsed.mono _ _ _)
   | (with_reducible exact impl_PlayPairMoves.mono _ _ _)
   | (with_reducible exact impl_SavedByPairs.mono _ _ _)
   | (with_reducible exact laws_yHas.mono _ _ _)
   | (with_reducible exact laws_ySame.mono _ _ _)
   | (with_reducible exact laws_ySum.mono _ _)
   | (with_reducible exact spec_CountPairWays.mono _ _ _)
   | (with_reducible exact spec_DrawFirstPairMoves.mono _ _)
   | (with_reducible exact spec_DrawMakePairMove.mono _ _)
   | (with_reducible exact spec_DrawPairMovesOf.mono _ _)
   | (with_reducible exact spec_DrawPlayPairMoves.mono _ _)
   | (with_reducible exact spec_FewestPairMoves.mono _ _ _)
   | (with_reducible exact spec_FirstPairMoves.mono _ _ _)
   | (with_reducible exact spec_MakePairMove.mono _ _ _)
   | (with_reducible exact spec_PairMovesOf.mono _ _)
   | (with_reducible exact spec_PairsUsed.mono _ _ _)
   | (with_reducible exact spec_PlayPairMoves.mono _ _ _)
   | (with_reducible exact spec_SavedByPairs.mono _ _ _)
   | (with_reducible exact LeO.refl _)
   | (with_reducible exact LeO.none _)
   | (with_reducible refine LeO.ite ?_ ?_)
   | (with_reducible refine LeO.bind ?_ (fun _ => ?_))
   | exact ih0 _ _ _ _ _ _ _ _ _ _
   | exact ih1 _
   | exact ih2 _ _ _ _ _ _ _ _
   | exact ih3 _ _ _ _ _
   | exact ih4 _ _ _ _ _ _ _ _ _ _ _ _ _ _ _ _ _ _
   | exact ih5 _ _ _ _ _ _ _
   | exact ih6 _ _ _ _ _ _ _ _ _ _ _ _
   | exact ih7 _ _ _ _ _ _ _ _ _ _ _ _ _ _ _ _
   | exact impl_CountPairWays.mono _ _ _
   | exact impl_FewestMoves.mono _ _ _
   | exact impl_FewestPairMoves.mono _ _ _
   | exact impl_FirstPairMoves.mono _ _ _
   | exact impl_MovesOf.mono _ _
   | exact impl_PairMovesOf.mono _ _
   | exact impl_PairsUsed.mono _ _ _
   | exact impl_PlayPairMoves.mono _ _ _
   | exact impl_SavedByPairs.mono _ _ _
   | exact laws_yHas.mono _ _ _
   | exact laws_ySame.mono _ _ _
   | exact laws_ySum.mono _ _
   | exact spec_CountPairWays.mono _ _ _
   | exact spec_DrawFirstPairMoves.mono _ _
   | exact spec_DrawMakePairMove.mono _ _
   | exact spec_DrawPairMovesOf.mono _ _
   | exact spec_DrawPlayPairMoves.mono _ _
   | exact spec_FewestPairMoves.mono _ _ _
   | exact spec_FirstPairMoves.mono _ _ _
   | exact spec_MakePairMove.mono _ _ _
   | exact spec_PairMovesOf.mono _ _
   | exact spec_PairsUsed.mono _ _ _
   | exact spec_PlayPairMoves.mono _ _ _
   | exact spec_SavedByPairs.mono _ _ _
   | exact LeO.none _
   | refine LeO.ite ?_ ?_
   | refine LeO.bind ?_ (fun _ => ?_)
  ·intro y0 y1 y2 y3 y4 y5 y6
   unfold laws_FnPairsMove.j2
   repeat' first
   | (with_reducible exact ih0 _ _ _ _ _ _ _ _ _ _)
   | (with_reducible exact ih1 _)
   | (with_reducible exact ih2 _ _ _ _ _ _ _ _)
   | (with_reducible exact ih3 _ _ _ _ _)
   | (with_reducible exact ih4 _ _ _ _ _ _ _ _ _ _ _ _ _ _ _ _ _ _)
   | (with_reducible exact ih5 _ _ _ _ _ _ _)
   | (with_reducible exact ih6 _ _ _ _ _ _ _ _ _ _ _ _)
   | (with_reducible exact ih7 _ _ _ _ _ _ _ _ _ _ _ _ _ _ _ _)
   | (with_reducible exact impl_CountPairWays.mono _ _ _)
   | (with_reducible exact impl_FewestMoves.mono _ _ _)
   | (with_reducible exact impl_FewestPairMoves.mono _ _ _)
   | (with_reducible exact impl_FirstPairMoves.mono _ _ _)
   | (with_reducible exact impl_MovesOf.mono _ _)
   | (with_reducible exact impl_PairMovesOf.mono _ _)
   | (with_reducible exact impl_PairsUsed.mono _ _ _)
   | (with_reducible exact impl_PlayPairMoves.mono _ _ _)
   | (with_reducible exact impl_SavedByPairs.mono _ _ _)
   | (with_reducible exact laws_yHas.mono _ _ _)
   | (with_reducible exact laws_ySame.mono _ _ _)
   | (with_reducible exact laws_ySum.mono _ _)
   | (with_reducible exact spec_CountPairWays.mono _ _ _)
   | (with_reducible exact spec_DrawFirstPairMoves.mono _ _)
   | (with_reducible exact spec_DrawMakePairMove.mono _ _)
   | (with_reducible exact spec_DrawPairMovesOf.mono _ _)
   | (with_reducible exact spec_DrawPlayPairMoves.mono _ _)
   | (with_reducible exact spec_FewestPairMoves.mono _ _ _)
   | (with_reducible exact spec_FirstPairMoves.mono _ _ _)
   | (with_reducible exact spec_MakePairMove.mono _ _ _)
   | (with_reducible exact spec_PairMovesOf.mono _ _)
   | (with_reducible exact spec_PairsUsed.mono _ _ _)
   | (with_reducible exact spec_PlayPairMoves.mono _ _ _)
   | (with_reducible exact spec_SavedByPairs.mono _ _ _)
   | (with_reducible exact LeO.refl _)
   | (with_reducible exact LeO.none _)
   | (with_reducible refine LeO.ite ?_ ?_)
   | (with_reducible refine LeO.bind ?_ (fun _ => ?_))
   | exact ih0 _ _ _ _ _ _ _ _ _ _
   | exact ih1 _
   | exact ih2 _ _ _ _ _ _ _ _
   | exact ih3 _ _ _ _ _
   | exact ih4 _ _ _ _ _ _ _ _ _ _ _ _ _ _ _ _ _ _
   | exact ih5 _ _ _ _ _ _ _
   | exact ih6 _ _ _ _ _ _ _ _ _ _ _ _
   | exact ih7 _ _ _ _ _ _ _ _ _ _ _ _ _ _ _ _
   | exact impl_CountPairWays.mono _ _ _
   | exact impl_FewestMoves.mono _ _ _
   | exact impl_FewestPairMoves.mono _ _ _
   | exact impl_FirstPairMoves.mono _ _ _
   | exact impl_MovesOf.mono _ _
   | exact impl_PairMovesOf.mono _ _
   | exact impl_PairsUsed.mono _ _ _
   | exact impl_PlayPairMoves.mono _ _ _
   | exact impl_SavedByPairs.mono _ _ _
   | exact laws_yHas.mono _ _ _
   | exact laws_ySame.mono _ _ _
   | exact laws_ySum.mono _ _
   | exact spec_CountPairWays.mono _ _ _
   | exact spec_DrawFirstPairMoves.mono _ _
   | exact spec_DrawMakePairMove.mono _ _
   | exact spec_DrawPairMovesOf.mono _ _
   | exact spec_DrawPlayPairMoves.mono _ _
   | exact spec_FewestPairMoves.mono _ _ _
   | exact spec_FirstPairMoves.mono _ _ _
   | exact spec_MakePairMove.mono _ _ _
   | exact spec_PairMovesOf.mono _ _
   | exact spec_PairsUsed.mono _ _ _
   | exact spec_PlayPairMoves.mono _ _ _
   | exact spec_SavedByPairs.mono _ _ _
   | exact LeO.none _
   | refine LeO.ite ?_ ?_
   | refine LeO.bind ?_ (fun _ => ?_)
  ·intro y0 y1 y2 y3 y4 y5 y6 y7 y8 y9 y10 y11
   unfold laws_FnPairsMove.l1
   repeat' first
   | (with_reducible exact ih0 _ _ _ _ _ _ _ _ _ _)
   | (with_reducible exact ih1 _)
   | (with_reducible exact ih2 _ _ _ _ _ _ _ _)
   | (with_reducible exact ih3 _ _ _ _ _)
   | (with_reducible exact ih4 _ _ _ _ _ _ _ _ _ _ _ _ _ _ _ _ _ _)
   | (with_reducible exact ih5 _ _ _ _ _ _ _)
   | (with_reducible exact ih6 _ _ _ _ _ _ _ _ _ _ _ _)
   | (with_reducible exact ih7 _ _ _ _ _ _ _ _ _ _ _ _ _ _ _ _)
   | (with_reducible exact impl_CountPairWays.mono _ _ _)
   | (with_reducible exact impl_FewestMoves.mono _ _ _)
   | (with_reducible exact impl_FewestPairMoves.mono _ _ _)
   | (with_reducible exact impl_FirstPairMoves.mono _ _ _)
   | (with_reducible exact impl_MovesOf.mono _ _)
   | (with_reducible exact impl_PairMovesOf.mono _ _)
   | (with_reducible exact impl_PairsUsed.mono _ _ _)
   | (with_reducible exact impl_PlayPairMoves.mono _ _ _)
   | (with_reducible exact impl_SavedByPairs.mono _ _ _)
   | (with_reducible exact laws_yHas.mono _ _ _)
   | (with_reducible exact laws_ySame.mono _ _ _)
   | (with_reducible exact laws_ySum.mono _ _)
   | (with_reducible exact spec_CountPairWays.mono _ _ _)
   | (with_reducible exact spec_DrawFirstPairMoves.mono _ _)
   | (with_reducible exact spec_DrawMakePairMove.mono _ _)
   | (with_reducible exact spec_DrawPairMovesOf.mono _ _)
   | (with_reducible exact spec_DrawPlayPairMoves.mono _ _)
   | (with_reducible exact spec_FewestPairMoves.mono _ _ _)
   | (with_reducible exact spec_FirstPairMoves.mono _ _ _)
   | (with_reducible exact spec_MakePairMove.mono _ _ _)
   | (with_reducible exact spec_PairMovesOf.mono _ _)
   | (with_reducible exact spec_PairsUsed.mono _ _ _)
   | (with_reducible exact spec_PlayPairMoves.mono _ _ _)
   | (with_reducible exact spec_SavedByPairs.mono _ _ _)
   | (with_reducible exact LeO.refl _)
   | (with_reducible exact LeO.none _)
   | (with_reducible refine LeO.ite ?_ ?_)
   | (with_reducible refine LeO.bind ?_ (fun _ => ?_))
   | exact ih0 _ _ _ _ _ _ _ _ _ _
   | exact ih1 _
   | exact ih2 _ _ _ _ _ _ _ _
   | exact ih3 _ _ _ _ _
   | exact ih4 _ _ _ _ _ _ _ _ _ _ _ _ _ _ _ _ _ _
   | exact ih5 _ _ _ _ _ _ _
   | exact ih6 _ _ _ _ _ _ _ _ _ _ _ _
   | exact ih7 _ _ _ _ _ _ _ _ _ _ _ _ _ _ _ _
   | exact impl_CountPairWays.mono _ _ _
   | exact impl_FewestMoves.mono _ _ _
   | exact impl_FewestPairMoves.mono _ _ _
   | exact impl_FirstPairMoves.mono _ _ _
   | exact impl_MovesOf.mono _ _
   | exact impl_PairMovesOf.mono _ _
   | exact impl_PairsUsed.mono _ _ _
   | exact impl_PlayPairMoves.mono _ _ _
   | exact impl_SavedByPairs.mono _ _ _
   | exact laws_yHas.mono _ _ _
   | exact laws_ySame.mono _ _ _
   | exact laws_ySum.mono _ _
   | exact spec_CountPairWays.mono _ _ _
   | exact spec_DrawFirstPairMoves.mono _ _
   | exact spec_DrawMakePairMove.mono _ _
   | exact spec_DrawPairMovesOf.mono _ _
   | exact spec_DrawPlayPairMoves.mono _ _
   | exact spec_FewestPairMoves.mono _ _ _
   | exact spec_FirstPairMoves.mono _ _ _
   | exact spec_MakePairMove.mono _ _ _
   | exact spec_PairMovesOf.mono _ _
   | exact spec_PairsUsed.mono _ _ _
   | exact spec_PlayPairMoves.mono _ _ _
   | exact spec_SavedByPairs.mono _ _ _
   | exact LeO.none _
   | refine LeO.ite ?_ ?_
   | refine LeO.bind ?_ (fun _ => ?_)
  ·intro y0 y1 y2 y3 y4 y5 y6 y7 y8 y9 y10 y11 y12 y13 y14 y15
   unfold laws_FnPairsMove.j4
   repeat' first
   | (with_reducible exact ih0 _ _ _ _ _ _ _ _ _ _)
   | (with_reducible exact ih1 _)
   | (with_reducible exact ih2 _ _ _ _ _ _ _ _)
   | (with_reducible exact ih3 _ _ _ _ _)
   | (with_reducible exact ih4 _ _ _ _ _ _ _ _ _ _ _ _ _ _ _ _ _ _)
   | (with_reducible exact ih5 _ _ _ _ _ _ _)
   | (with_reducible exact ih6 _ _ _ _ _ _ _ _ _ _ _ _)
   | (with_reducible exact ih7 _ _ _ _ _ _ _ _ _ _ _ _ _ _ _ _)
   | (with_reducible exact impl_CountPairWays.mono _ _ _)
   | (with_reducible exact impl_FewestMoves.mono _ _ _)
   | (with_reducible exact impl_FewestPairMoves.mono _ _ _)
   | (with_reducible exact impl_FirstPairMoves.mono _ _ _)
   | (with_reducible exact impl_MovesOf.mono _ _)
   | (with_reducible exact impl_PairMovesOf.mono _ _)
   | (with_reducible exact impl_PairsUsed.mono _ _ _)
   | (with_reducible exact impl_PlayPairMoves.mono _ _ _)
   | (with_reducible exact impl_SavedByPairs.mono _ _ _)
   | (with_reducible exact laws_yHas.mono _ _ _)
   | (with_reducible exact laws_ySame.mono _ _ _)
   | (with_reducible exact laws_ySum.mono _ _)
   | (with_reducible exact spec_CountPairWays.mono _ _ _)
   | (with_reducible exact spec_DrawFirstPairMoves.mono _ _)
   | (with_reducible exact spec_DrawMakePairMove.mono _ _)
   | (with_reducible exact spec_DrawPairMovesOf.mono _ _)
   | (with_reducible exact spec_DrawPlayPairMoves.mono _ _)
   | (with_reducible exact spec_FewestPairMoves.mono _ _ _)
   | (with_reducible exact spec_FirstPairMoves.mono _ _ _)
   | (with_reducible exact spec_MakePairMove.mono _ _ _)
   | (with_reducible exact spec_PairMovesOf.mono _ _)
   | (with_reducible exact spec_PairsUsed.mono _ _ _)
   | (with_reducible exact spec_PlayPairMoves.mono _ _ _)
   | (with_reducible exact spec_SavedByPairs.mono _ _ _)
   | (with_reducible exact LeO.refl _)
   | (with_reducible exact LeO.none _)
   | (with_reducible refine LeO.ite ?_ ?_)
   | (with_reducible refine LeO.bind ?_ (fun _ => ?_))
   | exact ih0 _ _ _ _ _ _ _ _ _ _
   | exact ih1 _
   | exact ih2 _ _ _ _ _ _ _ _
   | exact ih3 _ _ _ _ _
   | exact ih4 _ _ _ _ _ _ _ _ _ _ _ _ _ _ _ _ _ _
   | exact ih5 _ _ _ _ _ _ _
   | exact ih6 _ _ _ _ _ _ _ _ _ _ _ _
   | exact ih7 _ _ _ _ _ _ _ _ _ _ _ _ _ _ _ _
   | exact impl_CountPairWays.mono _ _ _
   | exact impl_FewestMoves.mono _ _ _
   | exact impl_FewestPairMoves.mono _ _ _
   | exact impl_FirstPairMoves.mono _ _ _
   | exact impl_MovesOf.mono _ _
   | exact impl_PairMovesOf.mono _ _
   | exact impl_PairsUsed.mono _ _ _
   | exact impl_PlayPairMoves.mono _ _ _
   | exact impl_SavedByPairs.mono _ _ _
   | exact laws_yHas.mono _ _ _
   | exact laws_ySame.mono _ _ _
   | exact laws_ySum.mono _ _
   | exact spec_CountPairWays.mono _ _ _
   | exact spec_DrawFirstPairMoves.mono _ _
   | exact spec_DrawMakePairMove.mono _ _
   | exact spec_DrawPairMovesOf.mono _ _
   | exact spec_DrawPlayPairMoves.mono _ _
   | exact spec_FewestPairMoves.mono _ _ _
   | exact spec_FirstPairMoves.mono _ _ _
   | exact spec_MakePairMove.mono _ _ _
   | exact spec_PairMovesOf.mono _ _
   | exact spec_PairsUsed.mono _ _ _
   | exact spec_PlayPairMoves.mono _ _ _
   | exact spec_SavedByPairs.mono _ _ _
   | exact LeO.none _
   | refine LeO.ite ?_ ?_
   | refine LeO.bind ?_ (fun _ => ?_)
theorem laws_FnPairsMove.mono : ∀ a0 a1 k, LeO (laws_FnPairsMove.f k a0 a1) (laws_FnPairsMove.f (k + 1) a0 a1) := by
 intro a0 a1 k
 obtain ⟨ih0, ih1, ih2, ih3, ih4, ih5, ih6, ih7⟩ := laws_FnPairsMove.mono_l k
 unfold laws_FnPairsMove.f
 repeat' first
   | (with_reducible exact ih0 _ _ _ _ _ _ _ _ _ _)
   | (with_reducible exact ih1 _)
   | (with_reducible exact ih2 _ _ _ _ _ _ _ _)
   | (with_reducible exact ih3 _ _ _ _ _)
   | (with_reducible exact ih4 _ _ _ _ _ _ _ _ _ _ _ _ _ _ _ _ _ _)
   | (with_reducible exact ih5 _ _ _ _ _ _ _)
   | (with_reducible exact ih6 _ _ _ _ _ _ _ _ _ _ _ _)
   | (with_reducible exact ih7 _ _ _ _ _ _ _ _ _ _ _ _ _ _ _ _)
   | (with_reducible exact impl_CountPairWays.mono _ _ _)
   | (with_reducible exact impl_FewestMoves.mono _ _ _)
   | (with_reducible exact impl_FewestPairMoves.mono _ _ _)
   | (with_reducible exact impl_FirstPairMoves.mono _ _ _)
   | (with_reducible exact impl_MovesOf.mono _ _)
   | (with_reducible exact impl_PairMovesOf.mono _ _)
   | (with_reducible exact impl_PairsUsed.mono _ _ _)
   | (with_reducible exact impl_PlayPairMoves.mono _ _ _)
   | (with_reducible exact impl_SavedByPairs.mono _ _ _)
   | (with_reducible exact laws_yHas.mono _ _ _)
   | (with_reducible exact laws_ySame.mono _ _ _)
   | (with_reducible exact laws_ySum.mono _ _)
   | (with_reducible exact spec_CountPairWays.mono _ _ _)
   | (with_reducible exact spec_DrawFirstPairMoves.mono _ _)
   | (with_reducible exact spec_DrawMakePairMove.mono _ _)
   | (with_reducible exact spec_DrawPairMovesOf.mono _ _)
   | (with_reducible exact spec_DrawPlayPairMoves.mono _ _)
   | (with_reducible exact spec_FewestPairMoves.mono _ _ _)
   | (with_reducible exact spec_FirstPairMoves.mono _ _ _)
   | (with_reducible exact spec_MakePairMove.mono _ _ _)
   | (with_reducible exact spec_PairMovesOf.mono _ _)
   | (with_reducible exact spec_PairsUsed.mono _ _ _)
   | (with_reducible exact spec_PlayPairMoves.mono _ _ _)
   | (with_reducible exact spec_SavedByPairs.mono _ _ _)
   | (with_reducible exact LeO.refl _)
   | (with_reducible exact LeO.none _)
   | (with_reducible refine LeO.ite ?_ ?_)
   | (with_reducible refine LeO.bind ?_ (fun _ => ?_))
   | exact ih0 _ _ _ _ _ _ _ _ _ _
   | exact ih1 _
   | exact ih2 _ _ _ _ _ _ _ _
   | exact ih3 _ _ _ _ _
   | exact ih4 _ _ _ _ _ _ _ _ _ _ _ _ _ _ _ _ _ _
   | exact ih5 _ _ _ _ _ _ _
   | exact ih6 _ _ _ _ _ _ _ _ _ _ _ _
   | exact ih7 _ _ _ _ _ _ _ _ _ _ _ _ _ _ _ _
   | exact impl_CountPairWays.mono _ _ _
   | exact impl_FewestMoves.mono _ _ _
   | exact impl_FewestPairMoves.mono _ _ _
   | exact impl_FirstPairMoves.mono _ _ _
   | exact impl_MovesOf.mono _ _
   | exact impl_PairMovesOf.mono _ _
   | exact impl_PairsUsed.mono _ _ _
   | exact impl_PlayPairMoves.mono _ _ _
   | exact impl_SavedByPairs.mono _ _ _
   | exact laws_yHas.mono _ _ _
   | exact laws_ySame.mono _ _ _
   | exact laws_ySum.mono _ _
   | exact spec_CountPairWays.mono _ _ _
   | exact spec_DrawFirstPairMoves.mono _ _
   | exact spec_DrawMakePairMove.mono _ _
   | exact spec_DrawPairMovesOf.mono _ _
   | exact spec_DrawPlayPairMoves.mono _ _
   | exact spec_FewestPairMoves.mono _ _ _
   | exact spec_FirstPairMoves.mono _ _ _
   | exact spec_MakePairMove.mono _ _ _
   | exact spec_PairMovesOf.mono _ _
   | exact spec_PairsUsed.mono _ _ _
   | exact spec_PlayPairMoves.mono _ _ _
   | exact spec_SavedByPairs.mono _ _ _
   | exact LeO.none _
   | refine LeO.ite ?_ ?_
   | refine LeO.bind ?_ (fun _ => ?_)
set_option maxHeartbeats 8000000 in
set_option maxRecDepth 100000 in
theorem laws_FnPairsMove.calls (k : Nat) (A0 : Option Addr) (c0 : Nat) (l0 : List Int) (A1 : Option Addr) (c1 : Nat) (l1 : List Int) (r : Bool) (w : World) (hr0 : Kd.C (Kd.int .u8) w A0 l0.length l0) (hc0 : l0.length ≤ c0) (hr1 : Kd.C (Kd.int .u8) w A1 l1.length l1) (hc1 : l1.length ≤ c1) (h : laws_FnPairsMove.f k l0 l1 = some r) :
  Calls Tryd.prog 3 #[.slice A0 l0.length c0, .slice A1 l1.length c1] w fun e w' => e = .returned (.bool r) ∧ Below w.heap.size w w' := by
 have HR0 := aM hr0
 have HC0 := aM hc0
 clear hr0 hc0
 have HR1 := aM hr1
 have HC1 := aM hc1
 clear hr1 hc1
 have HB := aM (Below.refl w.heap.size w)
 have H : ((laws_big.f l0 l1).bind fun t503 => (if t503 = true then (some true) else ((spec_DrawFirstPairMoves.f k l0).bind fun bt504 => ((impl_FirstPairMoves.f k bt504.1 bt504.2).bind fun bt506 => ((spec_FirstPairMoves.f k bt504.1 bt504.2).bind fun bt510 => ((impl_FewestPairMoves.f k bt504.1 bt504.2).bind fun bt514 => ((spec_FewestPairMoves.f k bt504.1 bt504.2).bind fun bt516 => ((impl_CountPairWays.f k bt504.1 bt504.2).bind fun bt518 => ((spec_CountPairWays.f k bt504.1 bt504.2).bind fun bt520 => ((impl_SavedByPairs.f k bt504.1 bt504.2).bind fun bt522 => ((spec_SavedByPairs.f k bt504.1 bt504.2).bind fun bt524 => ((impl_PairsUsed.f k bt504.1 bt504.2).bind fun bt526 => ((spec_PairsUsed.f k bt504.1 bt504.2).bind fun bt528 => (if (bt506.2 != bt510.2) = true then (none) else ((laws_ySame.f k bt506.1 bt510.1).bind fun t530 => (if t530 = true then (if (bt514.2 != bt516.2) = true then (none) else (if bt514.1 = bt516.1 then (if (bt518.2 != bt520.2) = true then (none) else (if bt518.1 = bt520.1 then (if (bt522.2 != bt524.2) = true then (none) else (if bt522.1 = bt524.1 then (if (bt526.2 != bt528.2) = true then (none) else (if bt526.1 = bt528.1 then (if (bt514.2 != bt506.2) = true then (none) else (if (bt518.2 != bt506.2) = true then (none) else (if (bt522.2 != bt506.2) = true then (none) else (laws_FnPairsMove.j0 k l1 bt504.1 bt504.2 bt506.1 bt506.2 bt514.1 bt518.1 bt522.1 bt526.1 (bt526.2 != bt506.2))))) else (none))) else (none))) else (none))) else (none))) else (none))))))))))))))))) = some r := h
 clear h
 replace H := Option.bind_eq_some_iff.mp H
 obtain ⟨t503, A30, H⟩ := H
 replace H : (if t503 = true then (some true) else ((spec_DrawFirstPairMoves.f k l0).bind fun bt504 => ((impl_FirstPairMoves.f k bt504.1 bt504.2).bind fun bt506 => ((spec_FirstPairMoves.f k bt504.1 bt504.2).bind fun bt510 => ((impl_FewestPairMoves.f k bt504.1 bt504.2).bind fun bt514 => ((spec_FewestPairMoves.f k bt504.1 bt504.2).bind fun bt516 => ((impl_CountPairWays.f k bt504.1 bt504.2).bind fun bt518 => ((spec_CountPairWays.f k bt504.1 bt504.2).bind fun bt520 => ((impl_SavedByPairs.f k bt504.1 bt504.2).bind fun bt522 => ((spec_SavedByPairs.f k bt504.1 bt504.2).bind fun bt524 => ((impl_PairsUsed.f k bt504.1 bt504.2).bind fun bt526 => ((spec_PairsUsed.f k bt504.1 bt504.2).bind fun bt528 => (if (bt506.2 != bt510.2) = true then (none) else ((laws_ySame.f k bt506.1 bt510.1).bind fun t530 => (if t530 = true then (if (bt514.2 != bt516.2) = true then (none) else (if bt514.1 = bt516.1 then (if (bt518.2 != bt520.2) = true then (none) else (if bt518.1 = bt520.1 then (if (bt522.2 != bt524.2) = true then (none) else (if bt522.1 = bt524.1 then (if (bt526.2 != bt528.2) = true then (none) else (if bt526.1 = bt528.1 then (if (bt514.2 != bt506.2) = true then (none) else (if (bt518.2 != bt506.2) = true then (none) else (if (bt522.2 != bt506.2) = true then (none) else (laws_FnPairsMove.j0 k l1 bt504.1 bt504.2 bt506.1 bt506.2 bt514.1 bt518.1 bt522.1 bt526.1 (bt526.2 != bt506.2))))) else (none))) else (none))) else (none))) else (none))) else (none)))))))))))))))) = some r := H
 have A3 := aM A30
 clear A30
 by_cases c4 : t503 = true
 ·subst c4
  have H1 : (some true) = some r := by rw [if_pos rfl] at H; exact H
  clear H; have H := H1; clear H1
  obtain rfl := Option.some.inj H
  go_enter Tryd.func3, Tryd.ntmps3
  go_wp2_with (first | (go_at_call 4; (with_reducible refine (laws_big.calls _ _ l0 _ _ l1 true _ ?side1 ?side2 ?side3 ?side4 A3.out).mono ?_); (case side1 => repeat (first | exact HR0.out | (with_reducible refine cA ?_ _) | (with_reducible refine cN ?_ _) | (with_reducible refine cD ?_))); (case side2 => exact HC0.out); (case side3 => repeat (first | exact HR1.out | (with_reducible refine cA ?_ _) | (with_reducible refine cN ?_ _) | (with_reducible refine cD ?_))); (case side4 => exact HC1.out); rintro e w' ⟨rfl, ⟨nd, rfl⟩⟩; (try first | exact ⟨rfl, _, World.drewN_drewN _ _ _⟩ | exact ⟨rfl, _, Eq.trans (World.drewN_drewN _ _ _) (congrArg (World.drewN _) (Nat.add_assoc _ _ _))⟩)))
  repeat (go_quiet (first | (go_at_call 4; (with_reducible refine (laws_big.calls _ _ l0 _ _ l1 true _ ?side1 ?side2 ?side3 ?side4 A3.out).mono ?_); (case side1 => repeat (first | exact HR0.out | (with_reducible refine cA ?_ _) | (with_reducible refine cN ?_ _) | (with_reducible refine cD ?_))); (case side2 => exact HC0.out); (case side3 => repeat (first | exact HR1.out | (with_reducible refine cA ?_ _) | (with_reducible refine cN ?_ _) | (with_reducible refine cD ?_))); (case side4 => exact HC1.out); rintro e w' ⟨rfl, ⟨nd, rfl⟩⟩; (try first | exact ⟨rfl, _, World.drewN_drewN _ _ _⟩ | exact ⟨rfl, _, Eq.trans (World.drewN_drewN _ _ _) (congrArg (World.drewN _) (Nat.add_assoc _ _ _))⟩))); try go_wp2_with (first | (go_at_call 4; (with_reducible refine (laws_big.calls _ _ l0 _ _ l1 true _ ?side1 ?side2 ?side3 ?side4 A3.out).mono ?_); (case side1 => repeat (first | exact HR0.out | (with_reducible refine cA ?_ _) | (with_reducible refine cN ?_ _) | (with_reducible refine cD ?_))); (case side2 => exact HC0.out); (case side3 => repeat (first | exact HR1.out | (with_reducible refine cA ?_ _) | (with_reducible refine cN ?_ _) | (with_reducible refine cD ?_))); (case side4 => exact HC1.out); rintro e w' ⟨rfl, ⟨nd, rfl⟩⟩; (try first | exact ⟨rfl, _, World.drewN_drewN _ _ _⟩ | exact ⟨rfl, _, Eq.trans (World.drewN_drewN _ _ _) (congrArg (World.drewN _) (Nat.add_assoc _ _ _))⟩))))
  go_ret
  exact ⟨by first | rfl | (simp [errW_none, errW_some] <;> rfl) | (simp [*, errW_none, errW_some] <;> rfl), by repeat (first | (with_reducible first | exact HB.out | apply bA | apply bN | apply bD) | exact HB.out)⟩
 ·as_aux_lemma =>
   replace c4 := Bool.eq_false_iff.mpr c4
   subst c4
   have H1 : ((spec_DrawFirstPairMoves.f k l0).bind fun bt504 => ((impl_FirstPairMoves.f k bt504.1 bt504.2).bind fun bt506 => ((spec_FirstPairMoves.f k bt504.1 bt504.2).bind fun bt510 => ((impl_FewestPairMoves.f k bt504.1 bt504.2).bind fun bt514 => ((spec_FewestPairMoves.f k bt504.1 bt504.2).bind fun bt516 => ((impl_CountPairWays.f k bt504.1 bt504.2).bind fun bt518 => ((spec_CountPairWays.f k bt504.1 bt504.2).bind fun bt520 => ((impl_SavedByPairs.f k bt504.1 bt504.2).bind fun bt522 => ((spec_SavedByPairs.f k bt504.1 bt504.2).bind fun bt524 => ((impl_PairsUsed.f k bt504.1 bt504.2).bind fun bt526 => ((spec_PairsUsed.f k bt504.1 bt504.2).bind fun bt528 => (if (bt506.2 != bt510.2) = true then (none) else ((laws_ySame.f k bt506.1 bt510.1).bind fun t530 => (if t530 = true then (if (bt514.2 != bt516.2) = true then (none) else (if bt514.1 = bt516.1 then (if (bt518.2 != bt520.2) = true then (none) else (if bt518.1 = bt520.1 then (if (bt522.2 != bt524.2) = true then (none) else (if bt522.1 = bt524.1 then (if (bt526.2 != bt528.2) = true then (none) else (if bt526.1 = bt528.1 then (if (bt514.2 != bt506.2) = true then (none) else (if (bt518.2 != bt506.2) = true then (none) else (if (bt522.2 != bt506.2) = true then (none) else (laws_FnPairsMove.j0 k l1 bt504.1 bt504.2 bt506.1 bt506.2 bt514.1 bt518.1 bt522.1 bt526.1 (bt526.2 != bt506.2))))) else (none))) else (none))) else (none))) else (none))) else (none))))))))))))))) = some r := by rw [if_neg (show ¬ (false = true) by decide)] at H; exact H
   clear H; have H := H1; clear H1
   replace H := Option.bind_eq_some_iff.mp H
   obtain ⟨⟨t504, t505⟩, A50, H⟩ := H
   replace H : ((impl_FirstPairMoves.f k t504 t505).bind fun bt506 => ((spec_FirstPairMoves.f k t504 t505).bind fun bt510 => ((impl_FewestPairMoves.f k t504 t505).bind fun bt514 => ((spec_FewestPairMoves.f k t504 t505).bind fun bt516 => ((impl_CountPairWays.f k t504 t505).bind fun bt518 => ((spec_CountPairWays.f k t504 t505).bind fun bt520 => ((impl_SavedByPairs.f k t504 t505).bind fun bt522 => ((spec_SavedByPairs.f k t504 t505).bind fun bt524 => ((impl_PairsUsed.f k t504 t505).bind fun bt526 => ((spec_PairsUsed.f k t504 t505).bind fun bt528 => (if (bt506.2 != bt510.2) = true then (none) else ((laws_ySame.f k bt506.1 bt510.1).bind fun t530 => (if t530 = true then (if (bt514.2 != bt516.2) = true then (none) else (if bt514.1 = bt516.1 then (if (bt518.2 != bt520.2) = true then (none) else (if bt518.1 = bt520.1 then (if (bt522.2 != bt524.2) = true then (none) else (if bt522.1 = bt524.1 then (if (bt526.2 != bt528.2) = true then (none) else (if bt526.1 = bt528.1 then (if (bt514.2 != bt506.2) = true then (none) else (if (bt518.2 != bt506.2) = true then (none) else (if (bt522.2 != bt506.2) = true then (none) else (laws_FnPairsMove.j0 k l1 t504 t505 bt506.1 bt506.2 bt514.1 bt518.1 bt522.1 bt526.1 (bt526.2 != bt506.2))))) else (none))) else (none))) else (none))) else (none))) else (none)))))))))))))) = some r := H
   have A5 := aM A50
   clear A50
   replace H := Option.bind_eq_some_iff.mp H
   obtain ⟨⟨t506, t507⟩, A60, H⟩ := H
   replace H : ((spec_FirstPairMoves.f k t504 t505).bind fun bt510 => ((impl_FewestPairMoves.f k t504 t505).bind fun bt514 => ((spec_FewestPairMoves.f k t504 t505).bind fun bt516 => ((impl_CountPairWays.f k t504 t505).bind fun bt518 => ((spec_CountPairWays.f k t504 t505).bind fun bt520 => ((impl_SavedByPairs.f k t504 t505).bind fun bt522 => ((spec_SavedByPairs.f k t504 t505).bind fun bt524 => ((impl_PairsUsed.f k t504 t505).bind fun bt526 => ((spec_PairsUsed.f k t504 t505).bind fun bt528 => (if (t507 != bt510.2) = true then (none) else ((laws_ySame.f k t506 bt510.1).bind fun t530 => (if t530 = true then (if (bt514.2 != bt516.2) = true then (none) else (if bt514.1 = bt516.1 then (if (bt518.2 != bt520.2) = true then (none) else (if bt518.1 = bt520.1 then (if (bt522.2 != bt524.2) = true then (none) else (if bt522.1 = bt524.1 then (if (bt526.2 != bt528.2) = true then (none) else (if bt526.1 = bt528.1 then (if (bt514.2 != t507) = true then (none) else (if (bt518.2 != t507) = true then (none) else (if (bt522.2 != t507) = true then (none) else (laws_FnPairsMove.j0 k l1 t504 t505 t506 t507 bt514.1 bt518.1 bt522.1 bt526.1 (bt526.2 != t507))))) else (none))) else (none))) else (none))) else (none))) else (none))))))))))))) = some r := H
   have A6 := aM A60
   clear A60
   replace H := Option.bind_eq_some_iff.mp H
   obtain ⟨⟨t510, t511⟩, A70, H⟩ := H
   replace H : ((impl_FewestPairMoves.f k t504 t505).bind fun bt514 => ((spec_FewestPairMoves.f k t504 t505).bind fun bt516 => ((impl_CountPairWays.f k t504 t505).bind fun bt518 => ((spec_CountPairWays.f k t504 t505).bind fun bt520 => ((impl_SavedByPairs.f k t504 t505).bind fun bt522 => ((spec_SavedByPairs.f k t504 t505).bind fun bt524 => ((impl_PairsUsed.f k t504 t505).bind fun bt526 => ((spec_PairsUsed.f k t504 t505).bind fun bt528 => (if (t507 != t511) = true then (none) else ((laws_ySame.f k t506 t510).bind fun t530 => (if t530 = true then (if (bt514.2 != bt516.2) = true then (none) else (if bt514.1 = bt516.1 then (if (bt518.2 != bt520.2) = true then (none) else (if bt518.1 = bt520.1 then (if (bt522.2 != bt524.2) = true then (none) else (if bt522.1 = bt524.1 then (if (bt526.2 != bt528.2) = true then (none) else (if bt526.1 = bt528.1 then (if (bt514.2 != t507) = true then (none) else (if (bt518.2 != t507) = true then (none) else (if (bt522.2 != t507) = true then (none) else (laws_FnPairsMove.j0 k l1 t504 t505 t506 t507 bt514.1 bt518.1 bt522.1 bt526.1 (bt526.2 != t507))))) else (none))) else (none))) else (none))) else (none))) else (none)))))))))))) = some r := H
   have A7 := aM A70
   clear A70
   replace H := Option.bind_eq_some_iff.mp H
   obtain ⟨⟨t514, t515⟩, A80, H⟩ := H
   replace H : ((spec_FewestPairMoves.f k t504 t505).bind fun bt516 => ((impl_CountPairWays.f k t504 t505).bind fun bt518 => ((spec_CountPairWays.f k t504 t505).bind fun bt520 => ((impl_SavedByPairs.f k t504 t505).bind fun bt522 => ((spec_SavedByPairs.f k t504 t505).bind fun bt524 => ((impl_PairsUsed.f k t504 t505).bind fun bt526 => ((spec_PairsUsed.f k t504 t505).bind fun bt528 => (if (t507 != t511) = true then (none) else ((laws_ySame.f k t506 t510).bind fun t530 => (if t530 = true then (if (t515 != bt516.2) = true then (none) else (if t514 = bt516.1 then (if (bt518.2 != bt520.2) = true then (none) else (if bt518.1 = bt520.1 then (if (bt522.2 != bt524.2) = true then (none) else (if bt522.1 = bt524.1 then (if (bt526.2 != bt528.2) = true then (none) else (if bt526.1 = bt528.1 then (if (t515 != t507) = true then (none) else (if (bt518.2 != t507) = true then (none) else (if (bt522.2 != t507) = true then (none) else (laws_FnPairsMove.j0 k l1 t504 t505 t506 t507 t514 bt518.1 bt522.1 bt526.1 (bt526.2 != t507))))) else (none))) else (none))) else (none))) else (none))) else (none))))))))))) = some r := H
   have A8 := aM A80
   clear A80
   replace H := Option.bind_eq_some_iff.mp H
   obtain ⟨⟨t516, t517⟩, A90, H⟩ := H
   replace H : ((impl_CountPairWays.f k t504 t505).bind fun bt518 => ((spec_CountPairWays.f k t504 t505).bind fun bt520 => ((impl_SavedByPairs.f k t504 t505).bind fun bt522 => ((spec_SavedByPairs.f k t504 t505).bind fun bt524 => ((impl_PairsUsed.f k t504 t505).bind fun bt526 => ((spec_PairsUsed.f k t504 t505).bind fun bt528 => (if (t507 != t511) = true then (none) else ((laws_ySame.f k t506 t510).bind fun t530 => (if t530 = true then (if (t515 != t517) = true then (none) else (if t514 = t516 then (if (bt518.2 != bt520.2) = true then (none) else (if bt518.1 = bt520.1 then (if (bt522.2 != bt524.2) = true then (none) else (if bt522.1 = bt524.1 then (if (bt526.2 != bt528.2) = true then (none) else (if bt526.1 = bt528.1 then (if (t515 != t507) = true then (none) else (if (bt518.2 != t507) = true then (none) else (if (bt522.2 != t507) = true then (none) else (laws_FnPairsMove.j0 k l1 t504 t505 t506 t507 t514 bt518.1 bt522.1 bt526.1 (bt526.2 != t507))))) else (none))) else (none))) else (none))) else (none))) else (none)))))))))) = some r := H
   have A9 := aM A90
   clear A90
   replace H := Option.bind_eq_some_iff.mp H
   obtain ⟨⟨t518, t519⟩, A100, H⟩ := H
   replace H : ((spec_CountPairWays.f k t504 t505).bind fun bt520 => ((impl_SavedByPairs.f k t504 t505).bind fun bt522 => ((spec_SavedByPairs.f k t504 t505).bind fun bt524 => ((impl_PairsUsed.f k t504 t505).bind fun bt526 => ((spec_PairsUsed.f k t504 t505).bind fun bt528 => (if (t507 != t511) = true then (none) else ((laws_ySame.f k t506 t510).bind fun t530 => (if t530 = true then (if (t515 != t517) = true then (none) else (if t514 = t516 then (if (t519 != bt520.2) = true then (none) else (if t518 = bt520.1 then (if (bt522.2 != bt524.2) = true then (none) else (if bt522.1 = bt524.1 then (if (bt526.2 != bt528.2) = true then (none) else (if bt526.1 = bt528.1 then (if (t515 != t507) = true then (none) else (if (t519 != t507) = true then (none) else (if (bt522.2 != t507) = true then (none) else (laws_FnPairsMove.j0 k l1 t504 t505 t506 t507 t514 t518 bt522.1 bt526.1 (bt526.2 != t507))))) else (none))) else (none))) else (none))) else (none))) else (none))))))))) = some r := H
   have A10 := aM A100
   clear A100
   replace H := Option.bind_eq_some_iff.mp H
   obtain ⟨⟨t520, t521⟩, A110, H⟩ := H
   replace H : ((impl_SavedByPairs.f k t504 t505).bind fun bt522 => ((spec_SavedByPairs.f k t504 t505).bind fun bt524 => ((impl_PairsUsed.f k t504 t505).bind fun bt526 => ((spec_PairsUsed.f k t504 t505).bind fun bt528 => (if (t507 != t511) = true then (none) else ((laws_ySame.f k t506 t510).bind fun t530 => (if t530 = true then (if (t515 != t517) = true then (none) else (if t514 = t516 then (if (t519 != t521) = true then (none) else (if t518 = t520 then (if (bt522.2 != bt524.2) = true then (none) else (if bt522.1 = bt524.1 then (if (bt526.2 != bt528.2) = true then (none) else (if bt526.1 = bt528.1 then (if (t515 != t507) = true then (none) else (if (t519 != t507) = true then (none) else (if (bt522.2 != t507) = true then (none) else (laws_FnPairsMove.j0 k l1 t504 t505 t506 t507 t514 t518 bt522.1 bt526.1 (bt526.2 != t507))))) else (none))) else (none))) else (none))) else (none))) else (none)))))))) = some r := H
   have A11 := aM A110
   clear A110
   replace H := Option.bind_eq_some_iff.mp H
   obtain ⟨⟨t522, t523⟩, A120, H⟩ := H
   replace H : ((spec_SavedByPairs.f k t504 t505).bind fun bt524 => ((impl_PairsUsed.f k t504 t505).bind fun bt526 => ((spec_PairsUsed.f k t504 t505).bind fun bt528 => (if (t507 != t511) = true then (none) else ((laws_ySame.f k t506 t510).bind fun t530 => (if t530 = true then (if (t515 != t517) = true then (none) else (if t514 = t516 then (if (t519 != t521) = true then (none) else (if t518 = t520 then (if (t523 != bt524.2) = true then (none) else (if t522 = bt524.1 then (if (bt526.2 != bt528.2) = true then (none) else (if bt526.1 = bt528.1 then (if (t515 != t507) = true then (none) else (if (t519 != t507) = true then (none) else (if (t523 != t507) = true then (none) else (laws_FnPairsMove.j0 k l1 t504 t505 t506 t507 t514 t518 t522 bt526.1 (bt526.2 != t507))))) else (none))) else (none))) else (none))) else (none))) else (none))))))) = some r := H
   have A12 := aM A120
   clear A120
   replace H := Option.bind_eq_some_iff.mp H
   obtain ⟨⟨t524, t525⟩, A130, H⟩ := H
   replace H : ((impl_PairsUsed.f k t504 t505).bind fun bt526 => ((spec_PairsUsed.f k t504 t505).bind fun bt528 => (if (t507 != t511) = true then (none) else ((laws_ySame.f k t506 t510).bind fun t530 => (if t530 = true then (if (t515 != t517) = true then (none) else (if t514 = t516 then (if (t519 != t521) = true then (none) else (if t518 = t520 then (if (t523 != t525) = true then (none) else (if t522 = t524 then (if (bt526.2 != bt528.2) = true then (none) else (if bt526.1 = bt528.1 then (if (t515 != t507) = true then (none) else (if (t519 != t507) = true then (none) else (if (t523 != t507) = true then (none) else (laws_FnPairsMove.j0 k l1 t504 t505 t506 t507 t514 t518 t522 bt526.1 (bt526.2 != t507))))) else (none))) else (none))) else (none))) else (none))) else (none)))))) = some r := H
   have A13 := aM A130
   clear A130
   replace H := Option.bind_eq_some_iff.mp H
   obtain ⟨⟨t526, t527⟩, A140, H⟩ := H
   replace H : ((spec_PairsUsed.f k t504 t505).bind fun bt528 => (if (t507 != t511) = true then (none) else ((laws_ySame.f k t506 t510).bind fun t530 => (if t530 = true then (if (t515 != t517) = true then (none) else (if t514 = t516 then (if (t519 != t521) = true then (none) else (if t518 = t520 then (if (t523 != t525) = true then (none) else (if t522 = t524 then (if (t527 != bt528.2) = true then (none) else (if t526 = bt528.1 then (if (t515 != t507) = true then (none) else (if (t519 != t507) = true then (none) else (if (t523 != t507) = true then (none) else (laws_FnPairsMove.j0 k l1 t504 t505 t506 t507 t514 t518 t522 t526 (t527 != t507))))) else (none))) else (none))) else (none))) else (none))) else (none))))) = some r := H
   have A14 := aM A140
   clear A140
   replace H := Option.bind_eq_some_iff.mp H
   obtain ⟨⟨t528, t529⟩, A150, H⟩ := H
   replace H : (if (t507 != t511) = true then (none) else ((laws_ySame.f k t506 t510).bind fun t530 => (if t530 = true then (if (t515 != t517) = true then (none) else (if t514 = t516 then (if (t519 != t521) = true then (none) else (if t518 = t520 then (if (t523 != t525) = true then (none) else (if t522 = t524 then (if (t527 != t529) = true then (none) else (if t526 = t528 then (if (t515 != t507) = true then (none) else (if (t519 != t507) = true then (none) else (if (t523 != t507) = true then (none) else (laws_FnPairsMove.j0 k l1 t504 t505 t506 t507 t514 t518 t522 t526 (t527 != t507))))) else (none))) else (none))) else (none))) else (none))) else (none)))) = some r := H
   have A15 := aM A150
   clear A150
   have HC16 := aM H
   clear H
   go_enter Tryd.func3, Tryd.ntmps3
   go_upto_region 14 with (first | (go_at_call 4; (with_reducible refine (laws_big.calls _ _ l0 _ _ l1 false _ ?side1 ?side2 ?side3 ?side4 A3.out).mono ?_); (case side1 => repeat (first | exact HR0.out | (with_reducible refine cA ?_ _) | (with_reducible refine cN ?_ _) | (with_reducible refine cD ?_))); (case side2 => exact HC0.out); (case side3 => repeat (first | exact HR1.out | (with_reducible refine cA ?_ _) | (with_reducible refine cN ?_ _) | (with_reducible refine cD ?_))); (case side4 => exact HC1.out); rintro e w' ⟨rfl, ⟨nd, rfl⟩⟩; (try first | exact ⟨rfl, _, World.drewN_drewN _ _ _⟩ | exact ⟨rfl, _, Eq.trans (World.drewN_drewN _ _ _) (congrArg (World.drewN _) (Nat.add_assoc _ _ _))⟩)) | (go_at_call 5; (with_reducible refine (spec_DrawFirstPairMoves.calls k _ _ l0 t504 t505 _ ?side1 ?side2 A5.out).mono ?_); (case side1 => repeat (first | exact HR0.out | (with_reducible refine cA ?_ _) | (with_reducible refine cN ?_ _) | (with_reducible refine cD ?_))); (case side2 => exact HC0.out); rintro e w17 ⟨rfl, hb⟩; have n0_ := aM (below_step (by repeat (first | (with_reducible first | exact HB.out | apply bA | apply bN | apply bD) | exact HB.out)) hb); clear HB; have HB := n0_; clear n0_; (try clear hb); (try clear hb2); (try clear hk); (try clear hi)) | (go_at_call 6; (with_reducible refine (impl_FirstPairMoves.calls k t504 t505 t506 t507 _ A6.out).mono ?_); rintro e w18 ⟨v508, rfl, ho0, hb⟩; have n0_ := aM (Kd.R_lower ho0 (below_size (by repeat (first | (with_reducible first | exact HB.out | apply bA | apply bN | apply bD) | exact HB.out)))); have n1_ := aM (below_step (by repeat (first | (with_reducible first | exact HB.out | apply bA | apply bN | apply bD) | exact HB.out)) hb); clear HB; have HO509 := n0_; have HB := n1_; clear n0_ n1_; (try clear hb); (try clear hb2); (try clear hk); (try clear hi); (try clear ho0)) | (go_at_call 7; (with_reducible refine (spec_FirstPairMoves.calls k t504 t505 t510 t511 _ A7.out).mono ?_); rintro e w19 ⟨v512, rfl, ho0, hb⟩; have n0_ := aM (Kd.R_elder' (by (with_reducible repeat (first | apply rA | apply rN | apply rD)); exact HO509.out) (Kd.R_base ho0) hb); have n1_ := aM (Kd.R_lower (Kd.R_new' ho0 (Kd.R_lt (by (with_reducible repeat (first | apply rA | apply rN | apply rD)); exact HO509.out))) (below_size (by repeat (first | (with_reducible first | exact HB.out | apply bA | apply bN | apply bD) | exact HB.out)))); have n2_ := aM (below_step (by repeat (first | (with_reducible first | exact HB.out | apply bA | apply bN | apply bD) | exact HB.out)) hb); clear HO509; clear HB; have HO509 := n0_; have HO513 := n1_; have HB := n2_; clear n0_ n1_ n2_; (try clear hb); (try clear hb2); (try clear hk); (try clear hi); (try clear ho0)) | (go_at_call 8; (with_reducible refine (impl_FewestPairMoves.calls k t504 t505 t514 t515 _ A8.out).mono ?_); rintro e w20 ⟨rfl, hb⟩; have n0_ := aM (Kd.R_below (by (with_reducible repeat (first | apply rA | apply rN | apply rD)); exact HO509.out) hb); have n1_ := aM (Kd.R_below (by (with_reducible repeat (first | apply rA | apply rN | apply rD)); exact HO513.out) hb); have n2_ := aM (below_step (by repeat (first | (with_reducible first | exact HB.out | apply bA | apply bN | apply bD) | exact HB.out)) hb); clear HO509; clear HO513; clear HB; have HO509 := n0_; have HO513 := n1_; have HB := n2_; clear n0_ n1_ n2_; (try clear hb); (try clear hb2); (try clear hk); (try clear hi)) | (go_at_call 9; (with_reducible refine (spec_FewestPairMoves.calls k t504 t505 t516 t517 _ A9.out).mono ?_); rintro e w21 ⟨rfl, hb⟩; have n0_ := aM (Kd.R_below (by (with_reducible repeat (first | apply rA | apply rN | apply rD)); exact HO509.out) hb); have n1_ := aM (Kd.R_below (by (with_reducible repeat (first | apply rA | apply rN | apply rD)); exact HO513.out) hb); have n2_ := aM (below_step (by repeat (first | (with_reducible first | exact HB.out | apply bA | apply bN | apply bD) | exact HB.out)) hb); clear HO509; clear HO513; clear HB; have HO509 := n0_; have HO513 := n1_; have HB := n2_; clear n0_ n1_ n2_; (try clear hb); (try clear hb2); (try clear hk); (try clear hi)) | (go_at_call 10; (with_reducible refine (impl_CountPairWays.calls k t504 t505 t518 t519 _ A10.out).mono ?_); rintro e w22 ⟨rfl, hb⟩; have n0_ := aM (Kd.R_below (by (with_reducible repeat (first | apply rA | apply rN | apply rD)); exact HO509.out) hb); have n1_ := aM (Kd.R_below (by (with_reducible repeat (first | apply rA | apply rN | apply rD)); exact HO513.out) hb); have n2_ := aM (below_step (by repeat (first | (with_reducible first | exact HB.out | apply bA | apply bN | apply bD) | exact HB.out)) hb); clear HO509; clear HO513; clear HB; have HO509 := n0_; have HO513 := n1_; have HB := n2_; clear n0_ n1_ n2_; (try clear hb); (try clear hb2); (try clear hk); (try clear hi)) | (go_at_call 11; (with_reducible refine (spec_CountPairWays.calls k t504 t505 t520 t521 _ A11.out).mono ?_); rintro e w23 ⟨rfl, hb⟩; have n0_ := aM (Kd.R_below (by (with_reducible repeat (first | apply rA | apply rN | apply rD)); exact HO509.out) hb); have n1_ := aM (Kd.R_below (by (with_reducible repeat (first | apply rA | apply rN | apply rD)); exact HO513.out) hb); have n2_ := aM (below_step (by repeat (first | (with_reducible first | exact HB.out | apply bA | apply bN | apply bD) | exact HB.out)) hb); clear HO509; clear HO513; clear HB; have HO509 := n0_; have HO513 := n1_; have HB := n2_; clear n0_ n1_ n2_; (try clear hb); (try clear hb2); (try clear hk); (try clear hi)) | (go_at_call 12; (with_reducible refine (impl_SavedByPairs.calls k t504 t505 t522 t523 _ A12.out).mono ?_); rintro e w24 ⟨rfl, hb⟩; have n0_ := aM (Kd.R_below (by (with_reducible repeat (first | apply rA | apply rN | apply rD)); exact HO509.out) hb); have n1_ := aM (Kd.R_below (by (with_reducible repeat (first | apply rA | apply rN | apply rD)); exact HO513.out) hb); have n2_ := aM (below_step (by repeat (first | (with_reducible first | exact HB.out | apply bA | apply bN | apply bD) | exact HB.out)) hb); clear HO509; clear HO513; clear HB; have HO509 := n0_; have HO513 := n1_; have HB := n2_; clear n0_ n1_ n2_; (try clear hb); (try clear hb2); (try clear hk); (try clear hi)) | (go_at_call 13; (with_reducible refine (spec_SavedByPairs.calls k t504 t505 t524 t525 _ A13.out).mono ?_); rintro e w25 ⟨rfl, hb⟩; have n0_ := aM (Kd.R_below (by (with_reducible repeat (first | apply rA | apply rN | apply rD)); exact HO509.out) hb); have n1_ := aM (Kd.R_below (by (with_reducible repeat (first | apply rA | apply rN | apply rD)); exact HO513.out) hb); have n2_ := aM (below_step (by repeat (first | (with_reducible first | exact HB.out | apply bA | apply bN | apply bD) | exact HB.out)) hb); clear HO509; clear HO513; clear HB; have HO509 := n0_; have HO513 := n1_; have HB := n2_; clear n0_ n1_ n2_; (try clear hb); (try clear hb2); (try clear hk); (try clear hi)) | (go_at_call 14; (with_reducible refine (impl_PairsUsed.calls k t504 t505 t526 t527 _ A14.out).mono ?_); rintro e w26 ⟨rfl, hb⟩; have n0_ := aM (Kd.R_below (by (with_reducible repeat (first | apply rA | apply rN | apply rD)); exact HO509.out) hb); have n1_ := aM (Kd.R_below (by (with_reducible repeat (first | apply rA | apply rN | apply rD)); exact HO513.out) hb); have n2_ := aM (below_step (by repeat (first | (with_reducible first | exact HB.out | apply bA | apply bN | apply bD) | exact HB.out)) hb); clear HO509; clear HO513; clear HB; have HO509 := n0_; have HO513 := n1_; have HB := n2_; clear n0_ n1_ n2_; (try clear hb); (try clear hb2); (try clear hk); (try clear hi)) | (go_at_call 15; (with_reducible refine (spec_PairsUsed.calls k t504 t505 t528 t529 _ A15.out).mono ?_); rintro e w27 ⟨rfl, hb⟩; have n0_ := aM (Kd.R_below (by (with_reducible repeat (first | apply rA | apply rN | apply rD)); exact HO509.out) hb); have n1_ := aM (Kd.R_below (by (with_reducible repeat (first | apply rA | apply rN | apply rD)); exact HO513.out) hb); have n2_ := aM (below_step (by repeat (first | (with_reducible first | exact HB.out | apply bA | apply bN | apply bD) | exact HB.out)) hb); clear HO509; clear HO513; clear HB; have HO509 := n0_; have HO513 := n1_; have HB := n2_; clear n0_ n1_ n2_; (try clear hb); (try clear hb2); (try clear hk); (try clear hi)))
   repeat (go_quiet (first | (go_at_call 4; (with_reducible refine (laws_big.calls _ _ l0 _ _ l1 false _ ?side1 ?side2 ?side3 ?side4 A3.out).mono ?_); (case side1 => repeat (first | exact HR0.out | (with_reducible refine cA ?_ _) | (with_reducible refine cN ?_ _) | (with_reducible refine cD ?_))); (case side2 => exact HC0.out); (case side3 => repeat (first | exact HR1.out | (with_reducible refine cA ?_ _) | (with_reducible refine cN ?_ _) | (with_reducible refine cD ?_))); (case side4 => exact HC1.out); rintro e w' ⟨rfl, ⟨nd, rfl⟩⟩; (try first | exact ⟨rfl, _, World.drewN_drewN _ _ _⟩ | exact ⟨rfl, _, Eq.trans (World.drewN_drewN _ _ _) (congrArg (World.drewN _) (Nat.add_assoc _ _ _))⟩)) | (go_at_call 5; (with_reducible refine (spec_DrawFirstPairMoves.calls k _ _ l0 t504 t505 _ ?side1 ?side2 A5.out).mono ?_); (case side1 => repeat (first | exact HR0.out | (with_reducible refine cA ?_ _) | (with_reducible refine cN ?_ _) | (with_reducible refine cD ?_))); (case side2 => exact HC0.out); rintro e w17 ⟨rfl, hb⟩; have n0_ := aM (below_step (by repeat (first | (with_reducible first | exact HB.out | apply bA | apply bN | apply bD) | exact HB.out)) hb); clear HB; have HB := n0_; clear n0_; (try clear hb); (try clear hb2); (try clear hk); (try clear hi)) | (go_at_call 6; (with_reducible refine (impl_FirstPairMoves.calls k t504 t505 t506 t507 _ A6.out).mono ?_); rintro e w18 ⟨v508, rfl, ho0, hb⟩; have n0_ := aM (Kd.R_lower ho0 (below_size (by repeat (first | (with_reducible first | exact HB.out | apply bA | apply bN | apply bD) | exact HB.out)))); have n1_ := aM (below_step (by repeat (first | (with_reducible first | exact HB.out | apply bA | apply bN | apply bD) | exact HB.out)) hb); clear HB; have HO509 := n0_; have HB := n1_; clear n0_ n1_; (try clear hb); (try clear hb2); (try clear hk); (try clear hi); (try clear ho0)) | (go_at_call 7; (with_reducible refine (spec_FirstPairMoves.calls k t504 t505 t510 t511 _ A7.out).mono ?_); rintro e w19 ⟨v512, rfl, ho0, hb⟩; have n0_ := aM (Kd.R_elder' (by (with_reducible repeat (first | apply rA | apply rN | apply rD)); exact HO509.out) (Kd.R_base ho0) hb); have n1_ := aM (Kd.R_lower (Kd.R_new' ho0 (Kd.R_lt (by (with_reducible repeat (first | apply rA | apply rN | apply rD)); exact HO509.out))) (below_size (by repeat (first | (with_reducible first | exact HB.out | apply bA | apply bN | apply bD) | exact HB.out)))); have n2_ := aM (below_step (by repeat (first | (with_reducible first | exact HB.out | apply bA | apply bN | apply bD) | exact HB.out)) hb); clear HO509; clear HB; have HO509 := n0_; have HO513 := n1_; have HB := n2_; clear n0_ n1_ n2_; (try clear hb); (try clear hb2); (try clear hk); (try clear hi); (try clear ho0)) | (go_at_call 8; (with_reducible refine (impl_FewestPairMoves.calls k t504 t505 t514 t515 _ A8.out).mono ?_); rintro e w20 ⟨rfl, hb⟩; have n0_ := aM (Kd.R_below (by (with_reducible repeat (first | apply rA | apply rN | apply rD)); exact HO509.out) hb); have n1_ := aM (Kd.R_below (by (with_reducible repeat (first | apply rA | apply rN | apply rD)); exact HO513.out) hb); have n2_ := aM (below_step (by repeat (first | (with_reducible first | exact HB.out | apply bA | apply bN | apply bD) | exact HB.out)) hb); clear HO509; clear HO513; clear HB; have HO509 := n0_; have HO513 := n1_; have HB := n2_; clear n0_ n1_ n2_; (try clear hb); (try clear hb2); (try clear hk); (try clear hi)) | (go_at_call 9; (with_reducible refine (spec_FewestPairMoves.calls k t504 t505 t516 t517 _ A9.out).mono ?_); rintro e w21 ⟨rfl, hb⟩; have n0_ := aM (Kd.R_below (by (with_reducible repeat (first | apply rA | apply rN | apply rD)); exact HO509.out) hb); have n1_ := aM (Kd.R_below (by (with_reducible repeat (first | apply rA | apply rN | apply rD)); exact HO513.out) hb); have n2_ := aM (below_step (by repeat (first | (with_reducible first | exact HB.out | apply bA | apply bN | apply bD) | exact HB.out)) hb); clear HO509; clear HO513; clear HB; have HO509 := n0_; have HO513 := n1_; have HB := n2_; clear n0_ n1_ n2_; (try clear hb); (try clear hb2); (try clear hk); (try clear hi)) | (go_at_call 10; (with_reducible refine (impl_CountPairWays.calls k t504 t505 t518 t519 _ A10.out).mono ?_); rintro e w22 ⟨rfl, hb⟩; have n0_ := aM (Kd.R_below (by (with_reducible repeat (first | apply rA | apply rN | apply rD)); exact HO509.out) hb); have n1_ := aM (Kd.R_below (by (with_reducible repeat (first | apply rA | apply rN | apply rD)); exact HO513.out) hb); have n2_ := aM (below_step (by repeat (first | (with_reducible first | exact HB.out | apply bA | apply bN | apply bD) | exact HB.out)) hb); clear HO509; clear HO513; clear HB; have HO509 := n0_; have HO513 := n1_; have HB := n2_; clear n0_ n1_ n2_; (try clear hb); (try clear hb2); (try clear hk); (try clear hi)) | (go_at_call 11; (with_reducible refine (spec_CountPairWays.calls k t504 t505 t520 t521 _ A11.out).mono ?_); rintro e w23 ⟨rfl, hb⟩; have n0_ := aM (Kd.R_below (by (with_reducible repeat (first | apply rA | apply rN | apply rD)); exact HO509.out) hb); have n1_ := aM (Kd.R_below (by (with_reducible repeat (first | apply rA | apply rN | apply rD)); exact HO513.out) hb); have n2_ := aM (below_step (by repeat (first | (with_reducible first | exact HB.out | apply bA | apply bN | apply bD) | exact HB.out)) hb); clear HO509; clear HO513; clear HB; have HO509 := n0_; have HO513 := n1_; have HB := n2_; clear n0_ n1_ n2_; (try clear hb); (try clear hb2); (try clear hk); (try clear hi)) | (go_at_call 12; (with_reducible refine (impl_SavedByPairs.calls k t504 t505 t522 t523 _ A12.out).mono ?_); rintro e w24 ⟨rfl, hb⟩; have n0_ := aM (Kd.R_below (by (with_reducible repeat (first | apply rA | apply rN | apply rD)); exact HO509.out) hb); have n1_ := aM (Kd.R_below (by (with_reducible repeat (first | apply rA | apply rN | apply rD)); exact HO513.out) hb); have n2_ := aM (below_step (by repeat (first | (with_reducible first | exact HB.out | apply bA | apply bN | apply bD) | exact HB.out)) hb); clear HO509; clear HO513; clear HB; have HO509 := n0_; have HO513 := n1_; have HB := n2_; clear n0_ n1_ n2_; (try clear hb); (try clear hb2); (try clear hk); (try clear hi)) | (go_at_call 13; (with_reducible refine (spec_SavedByPairs.calls k t504 t505 t524 t525 _ A13.out).mono ?_); rintro e w25 ⟨rfl, hb⟩; have n0_ := aM (Kd.R_below (by (with_reducible repeat (first | apply rA | apply rN | apply rD)); exact HO509.out) hb); have n1_ := aM (Kd.R_below (by (with_reducible repeat (first | apply rA | apply rN | apply rD)); exact HO513.out) hb); have n2_ := aM (below_step (by repeat (first | (with_reducible first | exact HB.out | apply bA | apply bN | apply bD) | exact HB.out)) hb); clear HO509; clear HO513; clear HB; have HO509 := n0_; have HO513 := n1_; have HB := n2_; clear n0_ n1_ n2_; (try clear hb); (try clear hb2); (try clear hk); (try clear hi)) | (go_at_call 14; (with_reducible refine (impl_PairsUsed.calls k t504 t505 t526 t527 _ A14.out).mono ?_); rintro e w26 ⟨rfl, hb⟩; have n0_ := aM (Kd.R_below (by (with_reducible repeat (first | apply rA | apply rN | apply rD)); exact HO509.out) hb); have n1_ := aM (Kd.R_below (by (with_reducible repeat (first | apply rA | apply rN | apply rD)); exact HO513.out) hb); have n2_ := aM (below_step (by repeat (first | (with_reducible first | exact HB.out | apply bA | apply bN | apply bD) | exact HB.out)) hb); clear HO509; clear HO513; clear HB; have HO509 := n0_; have HO513 := n1_; have HB := n2_; clear n0_ n1_ n2_; (try clear hb); (try clear hb2); (try clear hk); (try clear hi)) | (go_at_call 15; (with_reducible refine (spec_PairsUsed.calls k t504 t505 t528 t529 _ A15.out).mono ?_); rintro e w27 ⟨rfl, hb⟩; have n0_ := aM (Kd.R_below (by (with_reducible repeat (first | apply rA | apply rN | apply rD)); exact HO509.out) hb); have n1_ := aM (Kd.R_below (by (with_reducible repeat (first | apply rA | apply rN | apply rD)); exact HO513.out) hb); have n2_ := aM (below_step (by repeat (first | (with_reducible first | exact HB.out | apply bA | apply bN | apply bD) | exact HB.out)) hb); clear HO509; clear HO513; clear HB; have HO509 := n0_; have HO513 := n1_; have HB := n2_; clear n0_ n1_ n2_; (try clear hb); (try clear hb2); (try clear hk); (try clear hi))); go_upto_region 14 with (first | (go_at_call 4; (with_reducible refine (laws_big.calls _ _ l0 _ _ l1 false _ ?side1 ?side2 ?side3 ?side4 A3.out).mono ?_); (case side1 => repeat (first | exact HR0.out | (with_reducible refine cA ?_ _) | (with_reducible refine cN ?_ _) | (with_reducible refine cD ?_))); (case side2 => exact HC0.out); (case side3 => repeat (first | exact HR1.out | (with_reducible refine cA ?_ _) | (with_reducible refine cN ?_ _) | (with_reducible refine cD ?_))); (case side4 => exact HC1.out); rintro e w' ⟨rfl, ⟨nd, rfl⟩⟩; (try first | exact ⟨rfl, _, World.drewN_drewN _ _ _⟩ | exact ⟨rfl, _, Eq.trans (World.drewN_drewN _ _ _) (congrArg (World.drewN _) (Nat.add_assoc _ _ _))⟩)) | (go_at_call 5; (with_reducible refine (spec_DrawFirstPairMoves.calls k _ _ l0 t504 t505 _ ?side1 ?side2 A5.out).mono ?_); (case side1 => repeat (first | exact HR0.out | (with_reducible refine cA ?_ _) | (with_reducible refine cN ?_ _) | (with_reducible refine cD ?_))); (case side2 => exact HC0.out); rintro e w17 ⟨rfl, hb⟩; have n0_ := aM (below_step (by repeat (first | (with_reducible first | exact HB.out | apply bA | apply bN | apply bD) | exact HB.out)) hb); clear HB; have HB := n0_; clear n0_; (try clear hb); (try clear hb2); (try clear hk); (try clear hi)) | (go_at_call 6; (with_reducible refine (impl_FirstPairMoves.calls k t504 t505 t506 t507 _ A6.out).mono ?_); rintro e w18 ⟨v508, rfl, ho0, hb⟩; have n0_ := aM (Kd.R_lower ho0 (below_size (by repeat (first | (with_reducible first | exact HB.out | apply bA | apply bN | apply bD) | exact HB.out)))); have n1_ := aM (below_step (by repeat (first | (with_reducible first | exact HB.out | apply bA | apply bN | apply bD) | exact HB.out)) hb); clear HB; have HO509 := n0_; have HB := n1_; clear n0_ n1_; (try clear hb); (try clear hb2); (try clear hk); (try clear hi); (try clear ho0)) | (go_at_call 7; (with_reducible refine (spec_FirstPairMoves.calls k t504 t505 t510 t511 _ A7.out).mono ?_); rintro e w19 ⟨v512, rfl, ho0, hb⟩; have n0_ := aM (Kd.R_elder' (by (with_reducible repeat (first | apply rA | apply rN | apply rD)); exact HO509.out) (Kd.R_base ho0) hb); have n1_ := aM (Kd.R_lower (Kd.R_new' ho0 (Kd.R_lt (by (with_reducible repeat (first | apply rA | apply rN | apply rD)); exact HO509.out))) (below_size (by repeat (first | (with_reducible first | exact HB.out | apply bA | apply bN | apply bD) | exact HB.out)))); have n2_ := aM (below_step (by repeat (first | (with_reducible first | exact HB.out | apply bA | apply bN | apply bD) | exact HB.out)) hb); clear HO509; clear HB; have HO509 := n0_; have HO513 := n1_; have HB := n2_; clear n0_ n1_ n2_; (try clear hb); (try clear hb2); (try clear hk); (try clear hi); (try clear ho0)) | (go_at_call 8; (with_reducible refine (impl_FewestPairMoves.calls k t504 t505 t514 t515 _ A8.out).mono ?_); rintro e w20 ⟨rfl, hb⟩; have n0_ := aM (Kd.R_below (by (with_reducible repeat (first | apply rA | apply rN | apply rD)); exact HO509.out) hb); have n1_ := aM (Kd.R_below (by (with_reducible repeat (first | apply rA | apply rN | apply rD)); exact HO513.out) hb); have n2_ := aM (below_step (by repeat (first | (with_reducible first | exact HB.out | apply bA | apply bN | apply bD) | exact HB.out)) hb); clear HO509; clear HO513; clear HB; have HO509 := n0_; have HO513 := n1_; have HB := n2_; clear n0_ n1_ n2_; (try clear hb); (try clear hb2); (try clear hk); (try clear hi)) | (go_at_call 9; (with_reducible refine (spec_FewestPairMoves.calls k t504 t505 t516 t517 _ A9.out).mono ?_); rintro e w21 ⟨rfl, hb⟩; have n0_ := aM (Kd.R_below (by (with_reducible repeat (first | apply rA | apply rN | apply rD)); exact HO509.out) hb); have n1_ := aM (Kd.R_below (by (with_reducible repeat (first | apply rA | apply rN | apply rD)); exact HO513.out) hb); have n2_ := aM (below_step (by repeat (first | (with_reducible first | exact HB.out | apply bA | apply bN | apply bD) | exact HB.out)) hb); clear HO509; clear HO513; clear HB; have HO509 := n0_; have HO513 := n1_; have HB := n2_; clear n0_ n1_ n2_; (try clear hb); (try clear hb2); (try clear hk); (try clear hi)) | (go_at_call 10; (with_reducible refine (impl_CountPairWays.calls k t504 t505 t518 t519 _ A10.out).mono ?_); rintro e w22 ⟨rfl, hb⟩; have n0_ := aM (Kd.R_below (by (with_reducible repeat (first | apply rA | apply rN | apply rD)); exact HO509.out) hb); have n1_ := aM (Kd.R_below (by (with_reducible repeat (first | apply rA | apply rN | apply rD)); exact HO513.out) hb); have n2_ := aM (below_step (by repeat (first | (with_reducible first | exact HB.out | apply bA | apply bN | apply bD) | exact HB.out)) hb); clear HO509; clear HO513; clear HB; have HO509 := n0_; have HO513 := n1_; have HB := n2_; clear n0_ n1_ n2_; (try clear hb); (try clear hb2); (try clear hk); (try clear hi)) | (go_at_call 11; (with_reducible refine (spec_CountPairWays.calls k t504 t505 t520 t521 _ A11.out).mono ?_); rintro e w23 ⟨rfl, hb⟩; have n0_ := aM (Kd.R_below (by (with_reducible repeat (first | apply rA | apply rN | apply rD)); exact HO509.out) hb); have n1_ := aM (Kd.R_below (by (with_reducible repeat (first | apply rA | apply rN | apply rD)); exact HO513.out) hb); have n2_ := aM (below_step (by repeat (first | (with_reducible first | exact HB.out | apply bA | apply bN | apply bD) | exact HB.out)) hb); clear HO509; clear HO513; clear HB; have HO509 := n0_; have HO513 := n1_; have HB := n2_; clear n0_ n1_ n2_; (try clear hb); (try clear hb2); (try clear hk); (try clear hi)) | (go_at_call 12; (with_reducible refine (impl_SavedByPairs.calls k t504 t505 t522 t523 _ A12.out).mono ?_); rintro e w24 ⟨rfl, hb⟩; have n0_ := aM (Kd.R_below (by (with_reducible repeat (first | apply rA | apply rN | apply rD)); exact HO509.out) hb); have n1_ := aM (Kd.R_below (by (with_reducible repeat (first | apply rA | apply rN | apply rD)); exact HO513.out) hb); have n2_ := aM (below_step (by repeat (first | (with_reducible first | exact HB.out | apply bA | apply bN | apply bD) | exact HB.out)) hb); clear HO509; clear HO513; clear HB; have HO509 := n0_; have HO513 := n1_; have HB := n2_; clear n0_ n1_ n2_; (try clear hb); (try clear hb2); (try clear hk); (try clear hi)) | (go_at_call 13; (with_reducible refine (spec_SavedByPairs.calls k t504 t505 t524 t525 _ A13.out).mono ?_); rintro e w25 ⟨rfl, hb⟩; have n0_ := aM (Kd.R_below (by (with_reducible repeat (first | apply rA | apply rN | apply rD)); exact HO509.out) hb); have n1_ := aM (Kd.R_below (by (with_reducible repeat (first | apply rA | apply rN | apply rD)); exact HO513.out) hb); have n2_ := aM (below_step (by repeat (first | (with_reducible first | exact HB.out | apply bA | apply bN | apply bD) | exact HB.out)) hb); clear HO509; clear HO513; clear HB; have HO509 := n0_; have HO513 := n1_; have HB := n2_; clear n0_ n1_ n2_; (try clear hb); (try clear hb2); (try clear hk); (try clear hi)) | (go_at_call 14; (with_reducible refine (impl_PairsUsed.calls k t504 t505 t526 t527 _ A14.out).mono ?_); rintro e w26 ⟨rfl, hb⟩; have n0_ := aM (Kd.R_below (by (with_reducible repeat (first | apply rA | apply rN | apply rD)); exact HO509.out) hb); have n1_ := aM (Kd.R_below (by (with_reducible repeat (first | apply rA | apply rN | apply rD)); exact HO513.out) hb); have n2_ := aM (below_step (by repeat (first | (with_reducible first | exact HB.out | apply bA | apply bN | apply bD) | exact HB.out)) hb); clear HO509; clear HO513; clear HB; have HO509 := n0_; have HO513 := n1_; have HB := n2_; clear n0_ n1_ n2_; (try clear hb); (try clear hb2); (try clear hk); (try clear hi)) | (go_at_call 15; (with_reducible refine (spec_PairsUsed.calls k t504 t505 t528 t529 _ A15.out).mono ?_); rintro e w27 ⟨rfl, hb⟩; have n0_ := aM (Kd.R_below (by (with_reducible repeat (first | apply rA | apply rN | apply rD)); exact HO509.out) hb); have n1_ := aM (Kd.R_below (by (with_reducible repeat (first | apply rA | apply rN | apply rD)); exact HO513.out) hb); have n2_ := aM (below_step (by repeat (first | (with_reducible first | exact HB.out | apply bA | apply bN | apply bD) | exact HB.out)) hb); clear HO509; clear HO513; clear HB; have HO509 := n0_; have HO513 := n1_; have HB := n2_; clear n0_ n1_ n2_; (try clear hb); (try clear hb2); (try clear hk); (try clear hi))))
   (try simp only [Act.put, sA, sB, sC])
   go_cut [205] (fun v205 wc => ∃ (kq : Nat) (x205_15 : Bool), v205 = .bool x205_15 ∧ Aside0 (laws_FnPairsMove.j0 kq l1 t504 t505 t506 t507 t514 t518 t522 t526 x205_15 = some r) ∧ Aside0 (kq ≤ k) ∧ Aside0 (Kd.R (Kd.int .i64) 3 wc w.heap.size (fun _ => True) v508 t506) ∧ Aside0 (Below w.heap.size w wc))
   case first =>
    as_aux_lemma =>
     have H := HC16.out
     clear HC16
     by_cases c28 : (t507 != t511) = true
     ·rw [if_pos c28] at H
      exact absurd H (by simp)
     ·as_aux_lemma =>
       rw [if_neg c28] at H
       have c28b0 : (t507 != t511) = false := by simpa using c28
       (try (have c28b1 : decide (t507 = t511) = true := by simpa using c28))
       (try (have c28b2 : (t507 == t511) = true := by simpa using c28))
       clear c28
       (first | rw [c28b0] | (simp only [i64_w, i32_w]; rw [c28b0]) | skip)
       replace H := Option.bind_eq_some_iff.mp H
       obtain ⟨t530, A290, H⟩ := H
       replace H : (if t530 = true then (if (t515 != t517) = true then (none) else (if t514 = t516 then (if (t519 != t521) = true then (none) else (if t518 = t520 then (if (t523 != t525) = true then (none) else (if t522 = t524 then (if (t527 != t529) = true then (none) else (if t526 = t528 then (if (t515 != t507) = true then (none) else (if (t519 != t507) = true then (none) else (if (t523 != t507) = true then (none) else (laws_FnPairsMove.j0 k l1 t504 t505 t506 t507 t514 t518 t522 t526 (t527 != t507))))) else (none))) else (none))) else (none))) else (none))) else (none)) = some r := H
       have A29 := aM A290
       clear A290
       by_cases c30 : t530 = true
       ·as_aux_lemma =>
         subst c30
         have H1 : (if (t515 != t517) = true then (none) else (if t514 = t516 then (if (t519 != t521) = true then (none) else (if t518 = t520 then (if (t523 != t525) = true then (none) else (if t522 = t524 then (if (t527 != t529) = true then (none) else (if t526 = t528 then (if (t515 != t507) = true then (none) else (if (t519 != t507) = true then (none) else (if (t523 != t507) = true then (none) else (laws_FnPairsMove.j0 k l1 t504 t505 t506 t507 t514 t518 t522 t526 (t527 != t507))))) else (none))) else (none))) else (none))) else (none))) = some r := by rw [if_pos rfl] at H; exact H
         clear H; have H := H1; clear H1
         by_cases c31 : (t515 != t517) = true
         ·rw [if_pos c31] at H
          exact absurd H (by simp)
         ·as_aux_lemma =>
           rw [if_neg c31] at H
           have c31b0 : (t515 != t517) = false := by simpa using c31
           (try (have c31b1 : decide (t515 = t517) = true := by simpa using c31))
           (try (have c31b2 : (t515 == t517) = true := by simpa using c31))
           clear c31
           by_cases c34 : t514 = t516
           ·as_aux_lemma =>
             rw [if_pos c34] at H
             have c34b0 : (t514 == t516) = true := beq_iff_eq.mpr c34
             have c34b1 : (t514 != t516) = false := bne_eq_false_iff_eq.mpr c34
             clear c34
             by_cases c35 : (t519 != t521) = true
             ·rw [if_pos c35] at H
              exact absurd H (by simp)
             ·as_aux_lemma =>
               rw [if_neg c35] at H
               have c35b0 : (t519 != t521) = false := by simpa using c35
               (try (have c35b1 : decide (t519 = t521) = true := by simpa using c35))
               (try (have c35b2 : (t519 == t521) = true := by simpa using c35))
               clear c35
               by_cases c38 : t518 = t520
               ·as_aux_lemma =>
                 rw [if_pos c38] at H
                 have c38b0 : (t518 == t520) = true := beq_iff_eq.mpr c38
                 have c38b1 : (t518 != t520) = false := bne_eq_false_iff_eq.mpr c38
                 clear c38
                 by_cases c39 : (t523 != t525) = true
                 ·rw [if_pos c39] at H
                  exact absurd H (by simp)
                 ·as_aux_lemma =>
                   rw [if_neg c39] at H
                   have c39b0 : (t523 != t525) = false := by simpa using c39
                   (try (have c39b1 : decide (t523 = t525) = true := by simpa using c39))
                   (try (have c39b2 : (t523 == t525) = true := by simpa using c39))
                   clear c39
                   by_cases c42 : t522 = t524
                   ·rw [if_pos c42] at H
                    have c42b0 : (t522 == t524) = true := beq_iff_eq.mpr c42
                    have c42b1 : (t522 != t524) = false := bne_eq_false_iff_eq.mpr c42
                    clear c42
                    by_cases c43 : (t527 != t529) = true
                    ·rw [if_pos c43] at H
                     exact absurd H (by simp)
                    ·rw [if_neg c43] at H
                     have c43b0 : (t527 != t529) = false := by simpa using c43
                     (try (have c43b1 : decide (t527 = t529) = true := by simpa using c43))
                     (try (have c43b2 : (t527 == t529) = true := by simpa using c43))
                     clear c43
                     by_cases c46 : t526 = t528
                     ·rw [if_pos c46] at H
                      have c46b0 : (t526 == t528) = true := beq_iff_eq.mpr c46
                      have c46b1 : (t526 != t528) = false := bne_eq_false_iff_eq.mpr c46
                      clear c46
                      by_cases c47 : (t515 != t507) = true
                      ·rw [if_pos c47] at H
                       exact absurd H (by simp)
                      ·rw [if_neg c47] at H
                       have c47b0 : (t515 != t507) = false := by simpa using c47
                       (try (have c47b1 : decide (t515 = t507) = true := by simpa using c47))
                       (try (have c47b2 : (t515 == t507) = true := by simpa using c47))
                       clear c47
                       by_cases c50 : (t519 != t507) = true
                       ·rw [if_pos c50] at H
                        exact absurd H (by simp)
                       ·rw [if_neg c50] at H
                        have c50b0 : (t519 != t507) = false := by simpa using c50
                        (try (have c50b1 : decide (t519 = t507) = true := by simpa using c50))
                        (try (have c50b2 : (t519 == t507) = true := by simpa using c50))
                        clear c50
                        by_cases c53 : (t523 != t507) = true
                        ·rw [if_pos c53] at H
                         exact absurd H (by simp)
                        ·rw [if_neg c53] at H
                         have c53b0 : (t523 != t507) = false := by simpa using c53
                         (try (have c53b1 : decide (t523 = t507) = true := by simpa using c53))
                         (try (have c53b2 : (t523 == t507) = true := by simpa using c53))
                         clear c53
                         have H' := aM H
                         clear H
                         obtain ⟨Ao56, co56, eo56⟩ := Kd.R_slice HO509.out
                         subst eo56
                         obtain ⟨Ao57, co57, eo57⟩ := Kd.R_slice HO513.out
                         subst eo57
                         go_wp2_with (first | (go_at_call 16; (with_reducible refine (laws_ySame.calls k _ _ t506 _ _ t510 true _ ?side1 ?side2 ?side3 ?side4 A29.out).mono ?_); (case side1 => repeat (first | exact (Kd.R_reads' HO509.out).2.2 | (with_reducible refine cA ?_ _) | (with_reducible refine cN ?_ _) | (with_reducible refine cD ?_))); (case side2 => exact (Kd.R_reads' HO509.out).2.1); (case side3 => repeat (first | exact (Kd.R_reads' HO513.out).2.2 | (with_reducible refine cA ?_ _) | (with_reducible refine cN ?_ _) | (with_reducible refine cD ?_))); (case side4 => exact (Kd.R_reads' HO513.out).2.1); rintro e w' ⟨rfl, ⟨nd, rfl⟩⟩; (try first | exact ⟨rfl, _, World.drewN_drewN _ _ _⟩ | exact ⟨rfl, _, Eq.trans (World.drewN_drewN _ _ _) (congrArg (World.drewN _) (Nat.add_assoc _ _ _))⟩)))
                         repeat (go_quiet (first | (go_at_call 16; (with_reducible refine (laws_ySame.calls k _ _ t506 _ _ t510 true _ ?side1 ?side2 ?side3 ?side4 A29.out).mono ?_); (case side1 => repeat (first | exact (Kd.R_reads' HO509.out).2.2 | (with_reducible refine cA ?_ _) | (with_reducible refine cN ?_ _) | (with_reducible refine cD ?_))); (case side2 => exact (Kd.R_reads' HO509.out).2.1); (case side3 => repeat (first | exact (Kd.R_reads' HO513.out).2.2 | (with_reducible refine cA ?_ _) | (with_reducible refine cN ?_ _) | (with_reducible refine cD ?_))); (case side4 => exact (Kd.R_reads' HO513.out).2.1); rintro e w' ⟨rfl, ⟨nd, rfl⟩⟩; (try first | exact ⟨rfl, _, World.drewN_drewN _ _ _⟩ | exact ⟨rfl, _, Eq.trans (World.drewN_drewN _ _ _) (congrArg (World.drewN _) (Nat.add_assoc _ _ _))⟩))); try go_wp2_with (first | (go_at_call 16; (with_reducible refine (laws_ySame.calls k _ _ t506 _ _ t510 true _ ?side1 ?side2 ?side3 ?side4 A29.out).mono ?_); (case side1 => repeat (first | exact (Kd.R_reads' HO509.out).2.2 | (with_reducible refine cA ?_ _) | (with_reducible refine cN ?_ _) | (with_reducible refine cD ?_))); (case side2 => exact (Kd.R_reads' HO509.out).2.1); (case side3 => repeat (first | exact (Kd.R_reads' HO513.out).2.2 | (with_reducible refine cA ?_ _) | (with_reducible refine cN ?_ _) | (with_reducible refine cD ?_))); (case side4 => exact (Kd.R_reads' HO513.out).2.1); rintro e w' ⟨rfl, ⟨nd, rfl⟩⟩; (try first | exact ⟨rfl, _, World.drewN_drewN _ _ _⟩ | exact ⟨rfl, _, Eq.trans (World.drewN_drewN _ _ _) (congrArg (World.drewN _) (Nat.add_assoc _ _ _))⟩))))
                         go_meet
                         case rel => exact ⟨_, ((t527 != t507)), (by first | rfl | (simp; done) | (simp [*]; done)), H', ⟨by first | omega | exact Nat.le_refl _⟩, ⟨by (with_reducible repeat (first | apply rA | apply rN | apply rD)); exact Kd.R_mono HO509.out (fun _ hk => trivial)⟩, ⟨by repeat (first | (with_reducible first | exact HB.out | apply bA | apply bN | apply bD) | exact HB.out)⟩⟩
                     ·rw [if_neg c46] at H
                      exact absurd H (by simp)
                   ·rw [if_neg c42] at H
                    exact absurd H (by simp)
               ·rw [if_neg c38] at H
                exact absurd H (by simp)
           ·rw [if_neg c34] at H
            exact absurd H (by simp)
       ·replace c30 := Bool.eq_false_iff.mpr c30
        subst c30
        have H1 : (none) = some r := by rw [if_neg (show ¬ (false = true) by decide)] at H; exact H
        exact absurd H1 (by simp)
   case rest =>
    as_aux_lemma =>
     clear HC16
     try clear c1
     try clear c2
     try clear p2
     try clear c3
     try clear c4
     try clear c5
     try clear c28
     try clear c28b0
     try clear c28b1
     try clear c28b2
     try clear c30
     try clear c31
     try clear c31b0
     try clear c31b1
     try clear c31b2
     try clear c34
     try clear c34b0
     try clear c34b1
     try clear c35
     try clear c35b0
     try clear c35b1
     try clear c35b2
     try clear c38
     try clear c38b0
     try clear c38b1
     try clear c39
     try clear c39b0
     try clear c39b1
     try clear c39b2
     try clear c42
     try clear c42b0
     try clear c42b1
     try clear c43
     try clear c43b0
     try clear c43b1
     try clear c43b2
     try clear c46
     try clear c46b0
     try clear c46b1
     try clear c47
     try clear c47b0
     try clear c47b1
     try clear c47b2
     try clear c50
     try clear c50b0
     try clear c50b1
     try clear c50b2
     try clear c53
     try clear c53b0
     try clear c53b1
     try clear c53b2
     obtain ⟨kq, x205_15, rfl, HA, HJ15, HO_7, HB⟩ := hcut
     cases kq with
     | zero => exact absurd HA.out (by simp [laws_FnPairsMove.j0])
     | succ kj15 =>
      have H := HA.out
      clear HA
      simp only [laws_FnPairsMove.j0] at H
      by_cases c68 : x205_15 = true
      ·subst c68
       have H1 : (none) = some r := by rw [if_pos rfl] at H; exact H
       exact absurd H1 (by simp)
      ·as_aux_lemma =>
        replace c68 := Bool.eq_false_iff.mpr c68
        subst c68
        have H1 : (if t507 = true then ((impl_PlayPairMoves.f kj15 t504 t506).bind fun bt531 => ((impl_FewestMoves.f kj15 t504 t505).bind fun bt533 => ((impl_FewestPairMoves.f kj15 t505 t504).bind fun bt535 => (laws_FnPairsMove.l0 kj15 l1 t504 t505 t506 t514 t518 t522 t526 bt531.1 bt531.2 bt533.1 bt533.2 bt535.1 bt535.2 0 t506 (t506.length : Int) 0)))) else (laws_FnPairsMove.j5 kj15 l1)) = some r := by rw [if_neg (show ¬ (false = true) by decide)] at H; exact H
        clear H; have H := H1; clear H1
        have HC69 := aM H
        clear H
        go_upto_if 206 with (fail)
        repeat (go_quiet (fail); go_upto_if 206 with (fail))
        go_cut [] (fun wc => ∃ (kq : Nat), Aside0 (laws_FnPairsMove.j5 kq l1 = some r) ∧ Aside0 (kq ≤ kj15) ∧ Aside0 (Below w.heap.size w wc))
        case first =>
         as_aux_lemma =>
          have H := HC69.out
          clear HC69
          by_cases c70 : t507 = true
          ·as_aux_lemma =>
            subst c70
            have H1 : ((impl_PlayPairMoves.f kj15 t504 t506).bind fun bt531 => ((impl_FewestMoves.f kj15 t504 t505).bind fun bt533 => ((impl_FewestPairMoves.f kj15 t505 t504).bind fun bt535 => (laws_FnPairsMove.l0 kj15 l1 t504 t505 t506 t514 t518 t522 t526 bt531.1 bt531.2 bt533.1 bt533.2 bt535.1 bt535.2 0 t506 (t506.length : Int) 0)))) = some r := by rw [if_pos rfl] at H; exact H
            clear H; have H := H1; clear H1
            replace H := Option.bind_eq_some_iff.mp H
            obtain ⟨⟨t531, t532⟩, A710, H⟩ := H
            replace H : ((impl_FewestMoves.f kj15 t504 t505).bind fun bt533 => ((impl_FewestPairMoves.f kj15 t505 t504).bind fun bt535 => (laws_FnPairsMove.l0 kj15 l1 t504 t505 t506 t514 t518 t522 t526 t531 t532 bt533.1 bt533.2 bt535.1 bt535.2 0 t506 (t506.length : Int) 0))) = some r := H
            have A71 := aM A710
            clear A710
            replace H := Option.bind_eq_some_iff.mp H
            obtain ⟨⟨t533, t534⟩, A720, H⟩ := H
            replace H : ((impl_FewestPairMoves.f kj15 t505 t504).bind fun bt535 => (laws_FnPairsMove.l0 kj15 l1 t504 t505 t506 t514 t518 t522 t526 t531 t532 t533 t534 bt535.1 bt535.2 0 t506 (t506.length : Int) 0)) = some r := H
            have A72 := aM A720
            clear A720
            replace H := Option.bind_eq_some_iff.mp H
            obtain ⟨⟨t535, t536⟩, A730, H⟩ := H
            replace H : (laws_FnPairsMove.l0 kj15 l1 t504 t505 t506 t514 t518 t522 t526 t531 t532 t533 t534 t535 t536 0 t506 (t506.length : Int) 0) = some r := H
            have A73 := aM A730
            clear A730
            have H' := aM H
            clear H
            obtain ⟨Ao74, co74, eo74⟩ := Kd.R_slice HO_7.out
            subst eo74
            go_wp2_with (first | (go_at_call 17; (with_reducible refine (impl_PlayPairMoves.calls kj15 t504 _ _ t506 t531 t532 _ ?side1 ?side2 A71.out).mono ?_); (case side1 => repeat (first | exact (Kd.R_reads' HO_7.out).2.2 | (with_reducible refine cA ?_ _) | (with_reducible refine cN ?_ _) | (with_reducible refine cD ?_))); (case side2 => exact (Kd.R_reads' HO_7.out).2.1); rintro e w75 ⟨rfl, hb⟩; have n0_ := aM (Kd.R_below (by (with_reducible repeat (first | apply rA | apply rN | apply rD)); exact HO_7.out) hb); have n1_ := aM (below_step (by repeat (first | (with_reducible first | exact HB.out | apply bA | apply bN | apply bD) | exact HB.out)) hb); clear HO_7; clear HB; have HO_7 := n0_; have HB := n1_; clear n0_ n1_; (try clear hb); (try clear hb2); (try clear hk); (try clear hi)) | (go_at_call 18; (with_reducible refine (impl_FewestMoves.calls kj15 t504 t505 t533 t534 _ A72.out).mono ?_); rintro e w76 ⟨rfl, hb⟩; have n0_ := aM (Kd.R_below (by (with_reducible repeat (first | apply rA | apply rN | apply rD)); exact HO_7.out) hb); have n1_ := aM (below_step (by repeat (first | (with_reducible first | exact HB.out | apply bA | apply bN | apply bD) | exact HB.out)) hb); clear HO_7; clear HB; have HO_7 := n0_; have HB := n1_; clear n0_ n1_; (try clear hb); (try clear hb2); (try clear hk); (try clear hi)) | (go_at_call 8; (with_reducible refine (impl_FewestPairMoves.calls kj15 t505 t504 t535 t536 _ A73.out).mono ?_); rintro e w77 ⟨rfl, hb⟩; have n0_ := aM (Kd.R_below (by (with_reducible repeat (first | apply rA | apply rN | apply rD)); exact HO_7.out) hb); have n1_ := aM (below_step (by repeat (first | (with_reducible first | exact HB.out | apply bA | apply bN | apply bD) | exact HB.out)) hb); clear HO_7; clear HB; have HO_7 := n0_; have HB := n1_; clear n0_ n1_; (try clear hb); (try clear hb2); (try clear hk); (try clear hi)))
            repeat (go_quiet (first | (go_at_call 17; (with_reducible refine (impl_PlayPairMoves.calls kj15 t504 _ _ t506 t531 t532 _ ?side1 ?side2 A71.out).mono ?_); (case side1 => repeat (first | exact (Kd.R_reads' HO_7.out).2.2 | (with_reducible refine cA ?_ _) | (with_reducible refine cN ?_ _) | (with_reducible refine cD ?_))); (case side2 => exact (Kd.R_reads' HO_7.out).2.1); rintro e w75 ⟨rfl, hb⟩; have n0_ := aM (Kd.R_below (by (with_reducible repeat (first | apply rA | apply rN | apply rD)); exact HO_7.out) hb); have n1_ := aM (below_step (by repeat (first | (with_reducible first | exact HB.out | apply bA | apply bN | apply bD) | exact HB.out)) hb); clear HO_7; clear HB; have HO_7 := n0_; have HB := n1_; clear n0_ n1_; (try clear hb); (try clear hb2); (try clear hk); (try clear hi)) | (go_at_call 18; (with_reducible refine (impl_FewestMoves.calls kj15 t504 t505 t533 t534 _ A72.out).mono ?_); rintro e w76 ⟨rfl, hb⟩; have n0_ := aM (Kd.R_below (by (with_reducible repeat (first | apply rA | apply rN | apply rD)); exact HO_7.out) hb); have n1_ := aM (below_step (by repeat (first | (with_reducible first | exact HB.out | apply bA | apply bN | apply bD) | exact HB.out)) hb); clear HO_7; clear HB; have HO_7 := n0_; have HB := n1_; clear n0_ n1_; (try clear hb); (try clear hb2); (try clear hk); (try clear hi)) | (go_at_call 8; (with_reducible refine (impl_FewestPairMoves.calls kj15 t505 t504 t535 t536 _ A73.out).mono ?_); rintro e w77 ⟨rfl, hb⟩; have n0_ := aM (Kd.R_below (by (with_reducible repeat (first | apply rA | apply rN | apply rD)); exact HO_7.out) hb); have n1_ := aM (below_step (by repeat (first | (with_reducible first | exact HB.out | apply bA | apply bN | apply bD) | exact HB.out)) hb); clear HO_7; clear HB; have HO_7 := n0_; have HB := n1_; clear n0_ n1_; (try clear hb); (try clear hb2); (try clear hk); (try clear hi))); try go_wp2_with (first | (go_at_call 17; (with_reducible refine (impl_PlayPairMoves.calls kj15 t504 _ _ t506 t531 t532 _ ?side1 ?side2 A71.out).mono ?_); (case side1 => repeat (first | exact (Kd.R_reads' HO_7.out).2.2 | (with_reducible refine cA ?_ _) | (with_reducible refine cN ?_ _) | (with_reducible refine cD ?_))); (case side2 => exact (Kd.R_reads' HO_7.out).2.1); rintro e w75 ⟨rfl, hb⟩; have n0_ := aM (Kd.R_below (by (with_reducible repeat (first | apply rA | apply rN | apply rD)); exact HO_7.out) hb); have n1_ := aM (below_step (by repeat (first | (with_reducible first | exact HB.out | apply bA | apply bN | apply bD) | exact HB.out)) hb); clear HO_7; clear HB; have HO_7 := n0_; have HB := n1_; clear n0_ n1_; (try clear hb); (try clear hb2); (try clear hk); (try clear hi)) | (go_at_call 18; (with_reducible refine (impl_FewestMoves.calls kj15 t504 t505 t533 t534 _ A72.out).mono ?_); rintro e w76 ⟨rfl, hb⟩; have n0_ := aM (Kd.R_below (by (with_reducible repeat (first | apply rA | apply rN | apply rD)); exact HO_7.out) hb); have n1_ := aM (below_step (by repeat (first | (with_reducible first | exact HB.out | apply bA | apply bN | apply bD) | exact HB.out)) hb); clear HO_7; clear HB; have HO_7 := n0_; have HB := n1_; clear n0_ n1_; (try clear hb); (try clear hb2); (try clear hk); (try clear hi)) | (go_at_call 8; (with_reducible refine (impl_FewestPairMoves.calls kj15 t505 t504 t535 t536 _ A73.out).mono ?_); rintro e w77 ⟨rfl, hb⟩; have n0_ := aM (Kd.R_below (by (with_reducible repeat (first | apply rA | apply rN | apply rD)); exact HO_7.out) hb); have n1_ := aM (below_step (by repeat (first | (with_reducible first | exact HB.out | apply bA | apply bN | apply bD) | exact HB.out)) hb); clear HO_7; clear HB; have HO_7 := n0_; have HB := n1_; clear n0_ n1_; (try clear hb); (try clear hb2); (try clear hk); (try clear hi))))
            go_loopg [33, 227] kj15 (fun kq v33 v227 w' => ∃ (x33_2 : Int) (x227_2 : Int), v33 = .int .i64 x33_2 ∧ v227 = .int .i64 x227_2 ∧ Aside0 (laws_FnPairsMove.l0 kq l1 t504 t505 t506 t514 t518 t522 t526 t531 t532 t533 t534 t535 t536 x33_2 t506 (t506.length : Int) x227_2 = some r) ∧ Aside0 (kq ≤ kj15) ∧ Aside0 (Kd.R (Kd.int .i64) 3 w' w.heap.size (fun _ => True) (.slice Ao74 t506.length co74) t506) ∧ Aside0 (Kd.R (Kd.int .i64) 3 w' w.heap.size (fun _ => True) (.slice Ao74 t506.length co74) t506) ∧ Aside0 (Below w.heap.size w w'))
            case atStart => exact ⟨(0), (0), (by first | rfl | (simp; done) | (simp [*]; done)), (by first | rfl | (simp; done) | (simp [*]; done)), H', ⟨Nat.le_refl _⟩, ⟨by (with_reducible repeat (first | apply rA | apply rN | apply rD)); exact HO_7.out⟩, ⟨by (with_reducible repeat (first | apply rA | apply rN | apply rD)); exact HO_7.out⟩, ⟨by repeat (first | (with_reducible first | exact HB.out | apply bA | apply bN | apply bD) | exact HB.out)⟩⟩
            case round =>
             as_aux_lemma =>
              clear H'
              try clear c1
              try clear c2
              try clear p2
              try clear c3
              try clear c4
              try clear c5
              try clear c6
              try clear c7
              try clear c28
              try clear c28b0
              try clear c28b1
              try clear c28b2
              try clear c30
              try clear c31
              try clear c31b0
              try clear c31b1
              try clear c31b2
              try clear c34
              try clear c34b0
              try clear c34b1
              try clear c35
              try clear c35b0
              try clear c35b1
              try clear c35b2
              try clear c38
              try clear c38b0
              try clear c38b1
              try clear c39
              try clear c39b0
              try clear c39b1
              try clear c39b2
              try clear c42
              try clear c42b0
              try clear c42b1
              try clear c43
              try clear c43b0
              try clear c43b1
              try clear c43b2
              try clear c46
              try clear c46b0
              try clear c46b1
              try clear c47
              try clear c47b0
              try clear c47b1
              try clear c47b2
              try clear c50
              try clear c50b0
              try clear c50b1
              try clear c50b2
              try clear c53
              try clear c53b0
              try clear c53b1
              try clear c53b2
              try clear c68
              try clear c70
              try clear p2
              obtain ⟨x33_2, x227_2, rfl, rfl, HA, HK2, HO_7, HO_225, HB⟩ := hrel
              cases gk with
              | zero => exact absurd HA.out (by simp [laws_FnPairsMove.l0])
              | succ k2 =>
               have H := HA.out
               clear HA
               simp only [laws_FnPairsMove.l0] at H
               by_cases c78 : x227_2 < (t506.length : Int)
               ·rw [if_pos c78] at H
                have c78b0 : decide (x227_2 < (t506.length : Int)) = true := decide_eq_true c78
                clear c78
                (first | rw [c78b0] | (simp only [i64_w, i32_w]; rw [c78b0]) | skip)
                by_cases c79 : 0 ≤ x227_2
                ·rw [if_pos c79] at H
                 have c79b0 : decide (0 ≤ x227_2) = true := decide_eq_true c79
                 clear c79
                 by_cases c80 : x227_2 < (t506.length : Int)
                 ·rw [if_pos c80] at H
                  have c80b0 : decide (x227_2 < (t506.length : Int)) = true := decide_eq_true c80
                  clear c80
                  by_cases c81 : (rd t506 x227_2) = (-1)
                  ·rw [if_pos c81] at H
                   have c81b0 : ((rd t506 x227_2) == (-1)) = true := beq_iff_eq.mpr c81
                   have c81b1 : ((rd t506 x227_2) != (-1)) = false := bne_eq_false_iff_eq.mpr c81
                   clear c81
                   have H' := aM H
                   clear H
                   have p537 : 0 ≤ (x227_2 : Int) := of_decide_eq_true (by first | (with_reducible assumption) | assumption)
                   have q537 : x227_2 < (t506.length : Int) := of_decide_eq_true (by first | (with_reducible assumption) | assumption)
                   obtain ⟨ad537, e537, hx537_0⟩ := Kd.at_int (Kd.R_reads' HO_225.out).2.2 x227_2 p537 q537
                   cases e537
                   replace p537 := eq_true p537
                   replace q537 := eq_true q537
                   go_wp2
                   repeat (go_quiet (fail); try go_wp2)
                   go_roundg k2
                   case measure => have := HJ15.out; have := HK2.out; omega
                   case rel => exact ⟨(wrap64 (x33_2 + 1)), (wrap64 (x227_2 + 1)), (by first | rfl | (simp; done) | (simp [*]; done)), (by first | rfl | (simp; done) | (simp [*]; done)), H', ⟨by have := HJ15.out; have := HK2.out; omega⟩, ⟨by (with_reducible repeat (first | apply rA | apply rN | apply rD)); exact HO_7.out⟩, ⟨by (with_reducible repeat (first | apply rA | apply rN | apply rD)); exact HO_225.out⟩, ⟨by repeat (first | (with_reducible first | exact HB.out | apply bA | apply bN | apply bD) | exact HB.out)⟩⟩
                  ·rw [if_neg c81] at H
                   have c81b0 : ((rd t506 x227_2) == (-1)) = false := beq_eq_false_iff_ne.mpr c81
                   have c81b1 : ((rd t506 x227_2) != (-1)) = true := bne_iff_ne.mpr c81
                   have H' := aM H
                   clear H
                   have p537 : 0 ≤ (x227_2 : Int) := of_decide_eq_true (by first | (with_reducible assumption) | assumption)
                   have q537 : x227_2 < (t506.length : Int) := of_decide_eq_true (by first | (with_reducible assumption) | assumption)
                   obtain ⟨ad537, e537, hx537_0⟩ := Kd.at_int (Kd.R_reads' HO_225.out).2.2 x227_2 p537 q537
                   cases e537
                   replace p537 := eq_true p537
                   replace q537 := eq_true q537
                   go_wp2
                   repeat (go_quiet (fail); try go_wp2)
                   go_roundg k2
                   case measure => have := HJ15.out; have := HK2.out; omega
                   case rel => exact ⟨(x33_2), (wrap64 (x227_2 + 1)), (by first | rfl | (simp; done) | (simp [*]; done)), (by first | rfl | (simp; done) | (simp [*]; done)), H', ⟨by have := HJ15.out; have := HK2.out; omega⟩, ⟨by (with_reducible repeat (first | apply rA | apply rN | apply rD)); exact HO_7.out⟩, ⟨by (with_reducible repeat (first | apply rA | apply rN | apply rD)); exact HO_225.out⟩, ⟨by repeat (first | (with_reducible first | exact HB.out | apply bA | apply bN | apply bD) | exact HB.out)⟩⟩
                 ·rw [if_neg c80] at H
                  exact absurd H (by simp)
                ·rw [if_neg c79] at H
                 exact absurd H (by simp)
               ·as_aux_lemma =>
                 rw [if_neg c78] at H
                 have c78b0 : decide (x227_2 < (t506.length : Int)) = false := decide_eq_false c78
                 clear c78
                 (first | rw [c78b0] | (simp only [i64_w, i32_w]; rw [c78b0]) | skip)
                 have HC82 := aM H
                 clear H
                 go_upto_region 27 with (fail)
                 repeat (go_quiet (fail); go_upto_region 27 with (fail))
                 go_cut [290] (fun v290 wc => ∃ (kq : Nat) (x290_81 : Bool), v290 = .bool x290_81 ∧ Aside0 (laws_FnPairsMove.j2 kq l1 t504 t505 t506 t514 t518 x290_81 = some r) ∧ Aside0 (kq ≤ k2) ∧ Aside0 (Kd.R (Kd.int .i64) 3 wc w.heap.size (fun _ => True) (.slice Ao74 t506.length co74) t506) ∧ Aside0 (Below w.heap.size w wc))
                 case first =>
                  as_aux_lemma =>
                   have H := HC82.out
                   clear HC82
                   by_cases c83 : t514 ≤ 2000
                   ·as_aux_lemma =>
                     rw [if_pos c83] at H
                     have c83b0 : decide (t514 ≤ 2000) = true := decide_eq_true c83
                     clear c83
                     (first | rw [c83b0] | (simp only [i64_w, i32_w]; rw [c83b0]) | skip)
                     by_cases c84 : t532 = true
                     ·as_aux_lemma =>
                       subst c84
                       have H1 : (if t531.toList = t505.toList then (if (t506.length : Int) = t514 then (if t534 = true then (if (wrap64 (t533 - t514)) = t522 then (if t522 < 0 then (none) else (if t536 = true then (if t535 = t514 then (if t518 < 1 then (none) else (if x33_2 = t526 then (laws_FnPairsMove.j2 k2 l1 t504 t505 t506 t514 t518 (decide (t522 > t526))) else (none))) else (none)) else (none))) else (none)) else (none)) else (none)) else (none)) = some r := by rw [if_pos rfl] at H; exact H
                       clear H; have H := H1; clear H1
                       by_cases c85 : t531.toList = t505.toList
                       ·as_aux_lemma =>
                         rw [if_pos c85] at H
                         have c85b0 : (t531.toList == t505.toList) = true := beq_iff_eq.mpr c85
                         have c85b1 : (t531.toList != t505.toList) = false := bne_eq_false_iff_eq.mpr c85
                         clear c85
                         by_cases c86 : (t506.length : Int) = t514
                         ·as_aux_lemma =>
                           rw [if_pos c86] at H
                           have c86b0 : ((t506.length : Int) == t514) = true := beq_iff_eq.mpr c86
                           have c86b1 : ((t506.length : Int) != t514) = false := bne_eq_false_iff_eq.mpr c86
                           clear c86
                           by_cases c87 : t534 = true
                           ·subst c87
                            have H1 : (if (wrap64 (t533 - t514)) = t522 then (if t522 < 0 then (none) else (if t536 = true then (if t535 = t514 then (if t518 < 1 then (none) else (if x33_2 = t526 then (laws_FnPairsMove.j2 k2 l1 t504 t505 t506 t514 t518 (decide (t522 > t526))) else (none))) else (none)) else (none))) else (none)) = some r := by rw [if_pos rfl] at H; exact H
                            clear H; have H := H1; clear H1
                            by_cases c88 : (wrap64 (t533 - t514)) = t522
                            ·rw [if_pos c88] at H
                             have c88b0 : ((wrap64 (t533 - t514)) == t522) = true := beq_iff_eq.mpr c88
                             have c88b1 : ((wrap64 (t533 - t514)) != t522) = false := bne_eq_false_iff_eq.mpr c88
                             clear c88
                             by_cases c89 : t522 < 0
                             ·rw [if_pos c89] at H
                              exact absurd H (by simp)
                             ·rw [if_neg c89] at H
                              have c89b0 : decide (t522 < 0) = false := decide_eq_false c89
                              clear c89
                              by_cases c90 : t536 = true
                              ·subst c90
                               have H1 : (if t535 = t514 then (if t518 < 1 then (none) else (if x33_2 = t526 then (laws_FnPairsMove.j2 k2 l1 t504 t505 t506 t514 t518 (decide (t522 > t526))) else (none))) else (none)) = some r := by rw [if_pos rfl] at H; exact H
                               clear H; have H := H1; clear H1
                               by_cases c91 : t535 = t514
                               ·rw [if_pos c91] at H
                                have c91b0 : (t535 == t514) = true := beq_iff_eq.mpr c91
                                have c91b1 : (t535 != t514) = false := bne_eq_false_iff_eq.mpr c91
                                clear c91
                                by_cases c92 : t518 < 1
                                ·rw [if_pos c92] at H
                                 exact absurd H (by simp)
                                ·rw [if_neg c92] at H
                                 have c92b0 : decide (t518 < 1) = false := decide_eq_false c92
                                 clear c92
                                 by_cases c93 : x33_2 = t526
                                 ·rw [if_pos c93] at H
                                  have c93b0 : (x33_2 == t526) = true := beq_iff_eq.mpr c93
                                  have c93b1 : (x33_2 != t526) = false := bne_eq_false_iff_eq.mpr c93
                                  clear c93
                                  have H' := aM H
                                  clear H
                                  go_wp2
                                  repeat (go_quiet (fail); try go_wp2)
                                  go_meet
                                  case rel => exact ⟨_, (decide (t522 > t526)), (by first | rfl | (simp; done) | (simp [*]; done)), H', ⟨by have := HJ15.out; have := HK2.out; first | omega | exact Nat.le_refl _⟩, ⟨by (with_reducible repeat (first | apply rA | apply rN | apply rD)); exact HO_7.out⟩, ⟨by repeat (first | (with_reducible first | exact HB.out | apply bA | apply bN | apply bD) | exact HB.out)⟩⟩
                                 ·rw [if_neg c93] at H
                                  exact absurd H (by simp)
                               ·rw [if_neg c91] at H
                                exact absurd H (by simp)
                              ·replace c90 := Bool.eq_false_iff.mpr c90
                               subst c90
                               have H1 : (none) = some r := by rw [if_neg (show ¬ (false = true) by decide)] at H; exact H
                               exact absurd H1 (by simp)
                            ·rw [if_neg c88] at H
                             exact absurd H (by simp)
                           ·replace c87 := Bool.eq_false_iff.mpr c87
                            subst c87
                            have H1 : (none) = some r := by rw [if_neg (show ¬ (false = true) by decide)] at H; exact H
                            exact absurd H1 (by simp)
                         ·rw [if_neg c86] at H
                          exact absurd H (by simp)
                       ·rw [if_neg c85] at H
                        exact absurd H (by simp)
                     ·replace c84 := Bool.eq_false_iff.mpr c84
                      subst c84
                      have H1 : (none) = some r := by rw [if_neg (show ¬ (false = true) by decide)] at H; exact H
                      exact absurd H1 (by simp)
                   ·as_aux_lemma =>
                     rw [if_neg c83] at H
                     have c83b0 : decide (t514 ≤ 2000) = false := decide_eq_false c83
                     clear c83
                     (first | rw [c83b0] | (simp only [i64_w, i32_w]; rw [c83b0]) | skip)
                     by_cases c94 : (t506.length : Int) = t514
                     ·as_aux_lemma =>
                       rw [if_pos c94] at H
                       have c94b0 : ((t506.length : Int) == t514) = true := beq_iff_eq.mpr c94
                       have c94b1 : ((t506.length : Int) != t514) = false := bne_eq_false_iff_eq.mpr c94
                       clear c94
                       by_cases c95 : t534 = true
                       ·subst c95
                        have H1 : (if (wrap64 (t533 - t514)) = t522 then (if t522 < 0 then (none) else (if t536 = true then (if t535 = t514 then (if t518 < 1 then (none) else (if x33_2 = t526 then (laws_FnPairsMove.j2 k2 l1 t504 t505 t506 t514 t518 (decide (t522 > t526))) else (none))) else (none)) else (none))) else (none)) = some r := by rw [if_pos rfl] at H; exact H
                        clear H; have H := H1; clear H1
                        by_cases c96 : (wrap64 (t533 - t514)) = t522
                        ·rw [if_pos c96] at H
                         have c96b0 : ((wrap64 (t533 - t514)) == t522) = true := beq_iff_eq.mpr c96
                         have c96b1 : ((wrap64 (t533 - t514)) != t522) = false := bne_eq_false_iff_eq.mpr c96
                         clear c96
                         by_cases c97 : t522 < 0
                         ·rw [if_pos c97] at H
                          exact absurd H (by simp)
                         ·rw [if_neg c97] at H
                          have c97b0 : decide (t522 < 0) = false := decide_eq_false c97
                          clear c97
                          by_cases c98 : t536 = true
                          ·subst c98
                           have H1 : (if t535 = t514 then (if t518 < 1 then (none) else (if x33_2 = t526 then (laws_FnPairsMove.j2 k2 l1 t504 t505 t506 t514 t518 (decide (t522 > t526))) else (none))) else (none)) = some r := by rw [if_pos rfl] at H; exact H
                           clear H; have H := H1; clear H1
                           by_cases c99 : t535 = t514
                           ·rw [if_pos c99] at H
                            have c99b0 : (t535 == t514) = true := beq_iff_eq.mpr c99
                            have c99b1 : (t535 != t514) = false := bne_eq_false_iff_eq.mpr c99
                            clear c99
                            by_cases c100 : t518 < 1
                            ·rw [if_pos c100] at H
                             exact absurd H (by simp)
                            ·rw [if_neg c100] at H
                             have c100b0 : decide (t518 < 1) = false := decide_eq_false c100
                             clear c100
                             by_cases c101 : x33_2 = t526
                             ·rw [if_pos c101] at H
                              have c101b0 : (x33_2 == t526) = true := beq_iff_eq.mpr c101
                              have c101b1 : (x33_2 != t526) = false := bne_eq_false_iff_eq.mpr c101
                              clear c101
                              have H' := aM H
                              clear H
                              go_wp2
                              repeat (go_quiet (fail); try go_wp2)
                              go_meet
                              case rel => exact ⟨_, (decide (t522 > t526)), (by first | rfl | (simp; done) | (simp [*]; done)), H', ⟨by have := HJ15.out; have := HK2.out; first | omega | exact Nat.le_refl _⟩, ⟨by (with_reducible repeat (first | apply rA | apply rN | apply rD)); exact HO_7.out⟩, ⟨by repeat (first | (with_reducible first | exact HB.out | apply bA | apply bN | apply bD) | exact HB.out)⟩⟩
                             ·rw [if_neg c101] at H
                              exact absurd H (by simp)
                           ·rw [if_neg c99] at H
                            exact absurd H (by simp)
                          ·replace c98 := Bool.eq_false_iff.mpr c98
                           subst c98
                           have H1 : (none) = some r := by rw [if_neg (show ¬ (false = true) by decide)] at H; exact H
                           exact absurd H1 (by simp)
                        ·rw [if_neg c96] at H
                         exact absurd H (by simp)
                       ·replace c95 := Bool.eq_false_iff.mpr c95
                        subst c95
                        have H1 : (none) = some r := by rw [if_neg (show ¬ (false = true) by decide)] at H; exact H
                        exact absurd H1 (by simp)
                     ·rw [if_neg c94] at H
                      exact absurd H (by simp)
                 case rest =>
                  as_aux_lemma =>
                   clear HC82
                   try clear c1
                   try clear c2
                   try clear p2
                   try clear c3
                   try clear c4
                   try clear c5
                   try clear p5
                   try clear q5
                   try clear hx5
                   try clear c6
                   try clear p6
                   try clear c7
                   try clear c8
                   try clear c9
                   try clear c10
                   try clear c28
                   try clear c28b0
                   try clear c28b1
                   try clear c28b2
                   try clear c30
                   try clear c31
                   try clear c31b0
                   try clear c31b1
                   try clear c31b2
                   try clear c34
                   try clear c34b0
                   try clear c34b1
                   try clear c35
                   try clear c35b0
                   try clear c35b1
                   try clear c35b2
                   try clear c38
                   try clear c38b0
                   try clear c38b1
                   try clear c39
                   try clear c39b0
                   try clear c39b1
                   try clear c39b2
                   try clear c42
                   try clear c42b0
                   try clear c42b1
                   try clear c43
                   try clear c43b0
                   try clear c43b1
                   try clear c43b2
                   try clear c46
                   try clear c46b0
                   try clear c46b1
                   try clear c47
                   try clear c47b0
                   try clear c47b1
                   try clear c47b2
                   try clear c50
                   try clear c50b0
                   try clear c50b1
                   try clear c50b2
                   try clear c53
                   try clear c53b0
                   try clear c53b1
                   try clear c53b2
                   try clear p53
                   try clear q53
                   try clear hx53
                   try clear p64
                   try clear c68
                   try clear c70
                   try clear c78
                   try clear c78b0
                   try clear c79
                   try clear c79b0
                   try clear c80
                   try clear c80b0
                   try clear c81
                   try clear c81b0
                   try clear c81b1
                   try clear c83
                   try clear c83b0
                   try clear c84
                   try clear c85
                   try clear c85b0
                   try clear c85b1
                   try clear c86
                   try clear c86b0
                   try clear c86b1
                   try clear c87
                   try clear c88
                   try clear c88b0
                   try clear c88b1
                   try clear c89
                   try clear c89b0
                   try clear c90
                   try clear c91
                   try clear c91b0
                   try clear c91b1
                   try clear c92
                   try clear c92b0
                   try clear c93
                   try clear c93b0
                   try clear c93b1
                   try clear c94
                   try clear c94b0
                   try clear c94b1
                   try clear c95
                   try clear c96
                   try clear c96b0
                   try clear c96b1
                   try clear c97
                   try clear c97b0
                   try clear c98
                   try clear c99
                   try clear c99b0
                   try clear c99b1
                   try clear c100
                   try clear c100b0
                   try clear c101
                   try clear c101b0
                   try clear c101b1
                   try clear hx537_0
                   try clear p2
                   try clear p537
                   try clear q537
                   obtain ⟨kq, x290_81, rfl, HA, HJ81, HO_7, HB⟩ := hcut
                   cases kq with
                   | zero => exact absurd HA.out (by simp [laws_FnPairsMove.j2])
                   | succ kj81 =>
                    have H := HA.out
                    clear HA
                    simp only [laws_FnPairsMove.j2] at H
                    by_cases c102 : x290_81 = true
                    ·subst c102
                     have H1 : (none) = some r := by rw [if_pos rfl] at H; exact H
                     exact absurd H1 (by simp)
                    ·as_aux_lemma =>
                      replace c102 := Bool.eq_false_iff.mpr c102
                      subst c102
                      have H1 : ((impl_PairMovesOf.f kj81 t504).bind fun bt538 => (laws_FnPairsMove.l1 kj81 l1 t504 t505 t506 t514 t518 bt538.2 (-1) 0 bt538.1 (bt538.1.length : Int) 0)) = some r := by rw [if_neg (show ¬ (false = true) by decide)] at H; exact H
                      clear H; have H := H1; clear H1
                      replace H := Option.bind_eq_some_iff.mp H
                      obtain ⟨⟨t538, t539⟩, A1030, H⟩ := H
                      replace H : (laws_FnPairsMove.l1 kj81 l1 t504 t505 t506 t514 t518 t539 (-1) 0 t538 (t538.length : Int) 0) = some r := H
                      have A103 := aM A1030
                      clear A1030
                      have H' := aM H
                      clear H
                      go_wp2_with (first | (go_at_call 19; (with_reducible refine (impl_PairMovesOf.calls kj81 t504 t538 t539 _ A103.out).mono ?_); rintro e w104 ⟨v540, rfl, ho0, hb⟩; have n0_ := aM (Kd.R_elder' (by (with_reducible repeat (first | apply rA | apply rN | apply rD)); exact HO_7.out) (Kd.R_base ho0) hb); have n1_ := aM (Kd.R_lower (Kd.R_new' ho0 (Kd.R_lt (by (with_reducible repeat (first | apply rA | apply rN | apply rD)); exact HO_7.out))) (below_size (by repeat (first | (with_reducible first | exact HB.out | apply bA | apply bN | apply bD) | exact HB.out)))); have n2_ := aM (below_step (by repeat (first | (with_reducible first | exact HB.out | apply bA | apply bN | apply bD) | exact HB.out)) hb); clear HO_7; clear HB; have HO_7 := n0_; have HO541 := n1_; have HB := n2_; clear n0_ n1_ n2_; (try clear hb); (try clear hb2); (try clear hk); (try clear hi); (try clear ho0); obtain ⟨Ao105, co105, eo105⟩ := Kd.R_slice HO541.out; subst eo105))
                      repeat (go_quiet (first | (go_at_call 19; (with_reducible refine (impl_PairMovesOf.calls kj81 t504 t538 t539 _ A103.out).mono ?_); rintro e w104 ⟨v540, rfl, ho0, hb⟩; have n0_ := aM (Kd.R_elder' (by (with_reducible repeat (first | apply rA | apply rN | apply rD)); exact HO_7.out) (Kd.R_base ho0) hb); have n1_ := aM (Kd.R_lower (Kd.R_new' ho0 (Kd.R_lt (by (with_reducible repeat (first | apply rA | apply rN | apply rD)); exact HO_7.out))) (below_size (by repeat (first | (with_reducible first | exact HB.out | apply bA | apply bN | apply bD) | exact HB.out)))); have n2_ := aM (below_step (by repeat (first | (with_reducible first | exact HB.out | apply bA | apply bN | apply bD) | exact HB.out)) hb); clear HO_7; clear HB; have HO_7 := n0_; have HO541 := n1_; have HB := n2_; clear n0_ n1_ n2_; (try clear hb); (try clear hb2); (try clear hk); (try clear hi); (try clear ho0); obtain ⟨Ao105, co105, eo105⟩ := Kd.R_slice HO541.out; subst eo105)); try go_wp2_with (first | (go_at_call 19; (with_reducible refine (impl_PairMovesOf.calls kj81 t504 t538 t539 _ A103.out).mono ?_); rintro e w104 ⟨v540, rfl, ho0, hb⟩; have n0_ := aM (Kd.R_elder' (by (with_reducible repeat (first | apply rA | apply rN | apply rD)); exact HO_7.out) (Kd.R_base ho0) hb); have n1_ := aM (Kd.R_lower (Kd.R_new' ho0 (Kd.R_lt (by (with_reducible repeat (first | apply rA | apply rN | apply rD)); exact HO_7.out))) (below_size (by repeat (first | (with_reducible first | exact HB.out | apply bA | apply bN | apply bD) | exact HB.out)))); have n2_ := aM (below_step (by repeat (first | (with_reducible first | exact HB.out | apply bA | apply bN | apply bD) | exact HB.out)) hb); clear HO_7; clear HB; have HO_7 := n0_; have HO541 := n1_; have HB := n2_; clear n0_ n1_ n2_; (try clear hb); (try clear hb2); (try clear hk); (try clear hi); (try clear ho0); obtain ⟨Ao105, co105, eo105⟩ := Kd.R_slice HO541.out; subst eo105)))
                      go_loopg [38, 39, 298] kj81 (fun kq v38 v39 v298 w' => ∃ (x38_4 : Int) (x39_4 : Int) (x298_4 : Int), v38 = .int .i64 x38_4 ∧ v39 = .int .i64 x39_4 ∧ v298 = .int .i64 x298_4 ∧ Aside0 (laws_FnPairsMove.l1 kq l1 t504 t505 t506 t514 t518 t539 x38_4 x39_4 t538 (t538.length : Int) x298_4 = some r) ∧ Aside0 (kq ≤ kj81) ∧ Aside0 (Kd.R (Kd.int .i64) 3 w' w.heap.size (fun k_ => some k_ ≠ ((.slice Ao105 t538.length co105) : Value).ownBlock) (.slice Ao74 t506.length co74) t506) ∧ Aside0 (Kd.R (Kd.int .i64) 3 w' w.heap.size (fun k_ => some k_ ≠ ((.slice Ao74 t506.length co74) : Value).ownBlock) (.slice Ao105 t538.length co105) t538) ∧ Aside0 (Below w.heap.size w w'))
                      case atStart => exact ⟨((-1)), (0), (0), (by first | rfl | (simp; done) | (simp [*]; done)), (by first | rfl | (simp; done) | (simp [*]; done)), (by first | rfl | (simp; done) | (simp [*]; done)), H', ⟨Nat.le_refl _⟩, ⟨by (with_reducible repeat (first | apply rA | apply rN | apply rD)); exact Kd.R_mono HO_7.out (fun _ hk => hk.2)⟩, ⟨by (with_reducible repeat (first | apply rA | apply rN | apply rD)); exact Kd.R_mono HO541.out (fun _ hk => hk.2)⟩, ⟨by repeat (first | (with_reducible first | exact HB.out | apply bA | apply bN | apply bD) | exact HB.out)⟩⟩
                      case round =>
                       as_aux_lemma =>
                        clear H'
                        try clear c1
                        try clear c2
                        try clear p2
                        try clear c3
                        try clear c4
                        try clear c5
                        try clear p5
                        try clear q5
                        try clear hx5
                        try clear c6
                        try clear p6
                        try clear c7
                        try clear c8
                        try clear c9
                        try clear c10
                        try clear c28
                        try clear c28b0
                        try clear c28b1
                        try clear c28b2
                        try clear c30
                        try clear c31
                        try clear c31b0
                        try clear c31b1
                        try clear c31b2
                        try clear c34
                        try clear c34b0
                        try clear c34b1
                        try clear c35
                        try clear c35b0
                        try clear c35b1
                        try clear c35b2
                        try clear c38
                        try clear c38b0
                        try clear c38b1
                        try clear c39
                        try clear c39b0
                        try clear c39b1
                        try clear c39b2
                        try clear c42
                        try clear c42b0
                        try clear c42b1
                        try clear c43
                        try clear c43b0
                        try clear c43b1
                        try clear c43b2
                        try clear c46
                        try clear c46b0
                        try clear c46b1
                        try clear c47
                        try clear c47b0
                        try clear c47b1
                        try clear c47b2
                        try clear c50
                        try clear c50b0
                        try clear c50b1
                        try clear c50b2
                        try clear c53
                        try clear c53b0
                        try clear c53b1
                        try clear c53b2
                        try clear p53
                        try clear q53
                        try clear hx53
                        try clear p64
                        try clear c68
                        try clear c70
                        try clear c78
                        try clear c78b0
                        try clear c79
                        try clear c79b0
                        try clear c80
                        try clear c80b0
                        try clear c81
                        try clear c81b0
                        try clear c81b1
                        try clear c83
                        try clear c83b0
                        try clear c84
                        try clear c85
                        try clear c85b0
                        try clear c85b1
                        try clear c86
                        try clear c86b0
                        try clear c86b1
                        try clear c87
                        try clear c88
                        try clear c88b0
                        try clear c88b1
                        try clear c89
                        try clear c89b0
                        try clear c90
                        try clear c91
                        try clear c91b0
                        try clear c91b1
                        try clear c92
                        try clear c92b0
                        try clear c93
                        try clear c93b0
                        try clear c93b1
                        try clear c94
                        try clear c94b0
                        try clear c94b1
                        try clear c95
                        try clear c96
                        try clear c96b0
                        try clear c96b1
                        try clear c97
                        try clear c97b0
                        try clear c98
                        try clear c99
                        try clear c99b0
                        try clear c99b1
                        try clear c100
                        try clear c100b0
                        try clear c101
                        try clear c101b0
                        try clear c101b1
                        try clear c102
                        try clear hx537_0
                        try clear p2
                        try clear p5
                        try clear p53
                        try clear p537
                        try clear p6
                        try clear p64
                        try clear q5
                        try clear q53
                        try clear q537
                        obtain ⟨x38_4, x39_4, x298_4, rfl, rfl, rfl, HA, HK4, HO_7, HO_296, HB⟩ := hrel
                        cases gk with
                        | zero => exact absurd HA.out (by simp [laws_FnPairsMove.l1])
                        | succ k4 =>
                         have H := HA.out
                         clear HA
                         simp only [laws_FnPairsMove.l1] at H
                         by_cases c106 : x298_4 < (t538.length : Int)
                         ·as_aux_lemma =>
                           rw [if_pos c106] at H
                           have c106b0 : decide (x298_4 < (t538.length : Int)) = true := decide_eq_true c106
                           clear c106
                           by_cases c107 : 0 ≤ x298_4
                           ·as_aux_lemma =>
                             rw [if_pos c107] at H
                             have c107b0 : decide (0 ≤ x298_4) = true := decide_eq_true c107
                             clear c107
                             by_cases c108 : x298_4 < (t538.length : Int)
                             ·as_aux_lemma =>
                               rw [if_pos c108] at H
                               have c108b0 : decide (x298_4 < (t538.length : Int)) = true := decide_eq_true c108
                               clear c108
                               replace H := Option.bind_eq_some_iff.mp H
                               obtain ⟨⟨t544, t545⟩, A1090, H⟩ := H
                               replace H : ((impl_FewestPairMoves.f k4 t544 t505).bind fun bt546 => ((impl_CountPairWays.f k4 t544 t505).bind fun bt548 => (if t545 = true then (if bt546.2 = true then (if bt548.2 = true then (if bt546.1 < (wrap64 (t514 - 1)) then (none) else (laws_FnPairsMove.j4 k4 l1 t504 t505 t506 t514 t518 t539 x38_4 x39_4 (rd t538 x298_4) bt546.1 bt548.1 t538 (t538.length : Int) x298_4 (decide (bt546.1 > (wrap64 (t514 + 1)))))) else (none)) else (none)) else (none)))) = some r := H
                               have A109 := aM A1090
                               clear A1090
                               replace H := Option.bind_eq_some_iff.mp H
                               obtain ⟨⟨t546, t547⟩, A1100, H⟩ := H
                               replace H : ((impl_CountPairWays.f k4 t544 t505).bind fun bt548 => (if t545 = true then (if t547 = true then (if bt548.2 = true then (if t546 < (wrap64 (t514 - 1)) then (none) else (laws_FnPairsMove.j4 k4 l1 t504 t505 t506 t514 t518 t539 x38_4 x39_4 (rd t538 x298_4) t546 bt548.1 t538 (t538.length : Int) x298_4 (decide (t546 > (wrap64 (t514 + 1)))))) else (none)) else (none)) else (none))) = some r := H
                               have A110 := aM A1100
                               clear A1100
                               replace H := Option.bind_eq_some_iff.mp H
                               obtain ⟨⟨t548, t549⟩, A1110, H⟩ := H
                               replace H : (if t545 = true then (if t547 = true then (if t549 = true then (if t546 < (wrap64 (t514 - 1)) then (none) else (laws_FnPairsMove.j4 k4 l1 t504 t505 t506 t514 t518 t539 x38_4 x39_4 (rd t538 x298_4) t546 t548 t538 (t538.length : Int) x298_4 (decide (t546 > (wrap64 (t514 + 1)))))) else (none)) else (none)) else (none)) = some r := H
                               have A111 := aM A1110
                               clear A1110
                               have HC112 := aM H
                               clear H
                               have p543 : 0 ≤ (x298_4 : Int) := of_decide_eq_true (by first | (with_reducible assumption) | assumption)
                               have q543 : x298_4 < (t538.length : Int) := of_decide_eq_true (by first | (with_reducible assumption) | assumption)
                               obtain ⟨ad543, e543, hx543_0⟩ := Kd.at_int (Kd.R_reads' HO_296.out).2.2 x298_4 p543 q543
                               cases e543
                               replace p543 := eq_true p543
                               replace q543 := eq_true q543
                               go_upto_region 37 with (first | (go_at_call 20; (with_reducible refine (impl_MakePairMove.calls t504 (rd t538 x298_4) t544 t545 _ A109.out).mono ?_); rintro e w113 ⟨rfl, hb⟩; have n0_ := aM (Kd.R_below (by (with_reducible repeat (first | apply rA | apply rN | apply rD)); exact HO_7.out) hb); have n1_ := aM (Kd.R_below (by (with_reducible repeat (first | apply rA | apply rN | apply rD)); exact HO_296.out) hb); have n2_ := aM (below_step (by repeat (first | (with_reducible first | exact HB.out | apply bA | apply bN | apply bD) | exact HB.out)) hb); clear HO_7; clear HO_296; clear HB; have HO_7 := n0_; have HO_296 := n1_; have HB := n2_; clear n0_ n1_ n2_; (try clear hb); (try clear hb2); (try clear hk); (try clear hi)) | (go_at_call 8; (with_reducible refine (impl_FewestPairMoves.calls k4 t544 t505 t546 t547 _ A110.out).mono ?_); rintro e w114 ⟨rfl, hb⟩; have n0_ := aM (Kd.R_below (by (with_reducible repeat (first | apply rA | apply rN | apply rD)); exact HO_7.out) hb); have n1_ := aM (Kd.R_below (by (with_reducible repeat (first | apply rA | apply rN | apply rD)); exact HO_296.out) hb); have n2_ := aM (below_step (by repeat (first | (with_reducible first | exact HB.out | apply bA | apply bN | apply bD) | exact HB.out)) hb); clear HO_7; clear HO_296; clear HB; have HO_7 := n0_; have HO_296 := n1_; have HB := n2_; clear n0_ n1_ n2_; (try clear hb); (try clear hb2); (try clear hk); (try clear hi)) | (go_at_call 10; (with_reducible refine (impl_CountPairWays.calls k4 t544 t505 t548 t549 _ A111.out).mono ?_); rintro e w115 ⟨rfl, hb⟩; have n0_ := aM (Kd.R_below (by (with_reducible repeat (first | apply rA | apply rN | apply rD)); exact HO_7.out) hb); have n1_ := aM (Kd.R_below (by (with_reducible repeat (first | apply rA | apply rN | apply rD)); exact HO_296.out) hb); have n2_ := aM (below_step (by repeat (first | (with_reducible first | exact HB.out | apply bA | apply bN | apply bD) | exact HB.out)) hb); clear HO_7; clear HO_296; clear HB; have HO_7 := n0_; have HO_296 := n1_; have HB := n2_; clear n0_ n1_ n2_; (try clear hb); (try clear hb2); (try clear hk); (try clear hi)))
                               repeat (go_quiet (first | (go_at_call 20; (with_reducible refine (impl_MakePairMove.calls t504 (rd t538 x298_4) t544 t545 _ A109.out).mono ?_); rintro e w113 ⟨rfl, hb⟩; have n0_ := aM (Kd.R_below (by (with_reducible repeat (first | apply rA | apply rN | apply rD)); exact HO_7.out) hb); have n1_ := aM (Kd.R_below (by (with_reducible repeat (first | apply rA | apply rN | apply rD)); exact HO_296.out) hb); have n2_ := aM (below_step (by repeat (first | (with_reducible first | exact HB.out | apply bA | apply bN | apply bD) | exact HB.out)) hb); clear HO_7; clear HO_296; clear HB; have HO_7 := n0_; have HO_296 := n1_; have HB := n2_; clear n0_ n1_ n2_; (try clear hb); (try clear hb2); (try clear hk); (try clear hi)) | (go_at_call 8; (with_reducible refine (impl_FewestPairMoves.calls k4 t544 t505 t546 t547 _ A110.out).mono ?_); rintro e w114 ⟨rfl, hb⟩; have n0_ := aM (Kd.R_below (by (with_reducible repeat (first | apply rA | apply rN | apply rD)); exact HO_7.out) hb); have n1_ := aM (Kd.R_below (by (with_reducible repeat (first | apply rA | apply rN | apply rD)); exact HO_296.out) hb); have n2_ := aM (below_step (by repeat (first | (with_reducible first | exact HB.out | apply bA | apply bN | apply bD) | exact HB.out)) hb); clear HO_7; clear HO_296; clear HB; have HO_7 := n0_; have HO_296 := n1_; have HB := n2_; clear n0_ n1_ n2_; (try clear hb); (try clear hb2); (try clear hk); (try clear hi)) | (go_at_call 10; (with_reducible refine (impl_CountPairWays.calls k4 t544 t505 t548 t549 _ A111.out).mono ?_); rintro e w115 ⟨rfl, hb⟩; have n0_ := aM (Kd.R_below (by (with_reducible repeat (first | apply rA | apply rN | apply rD)); exact HO_7.out) hb); have n1_ := aM (Kd.R_below (by (with_reducible repeat (first | apply rA | apply rN | apply rD)); exact HO_296.out) hb); have n2_ := aM (below_step (by repeat (first | (with_reducible first | exact HB.out | apply bA | apply bN | apply bD) | exact HB.out)) hb); clear HO_7; clear HO_296; clear HB; have HO_7 := n0_; have HO_296 := n1_; have HB := n2_; clear n0_ n1_ n2_; (try clear hb); (try clear hb2); (try clear hk); (try clear hi))); go_upto_region 37 with (first | (go_at_call 20; (with_reducible refine (impl_MakePairMove.calls t504 (rd t538 x298_4) t544 t545 _ A109.out).mono ?_); rintro e w113 ⟨rfl, hb⟩; have n0_ := aM (Kd.R_below (by (with_reducible repeat (first | apply rA | apply rN | apply rD)); exact HO_7.out) hb); have n1_ := aM (Kd.R_below (by (with_reducible repeat (first | apply rA | apply rN | apply rD)); exact HO_296.out) hb); have n2_ := aM (below_step (by repeat (first | (with_reducible first | exact HB.out | apply bA | apply bN | apply bD) | exact HB.out)) hb); clear HO_7; clear HO_296; clear HB; have HO_7 := n0_; have HO_296 := n1_; have HB := n2_; clear n0_ n1_ n2_; (try clear hb); (try clear hb2); (try clear hk); (try clear hi)) | (go_at_call 8; (with_reducible refine (impl_FewestPairMoves.calls k4 t544 t505 t546 t547 _ A110.out).mono ?_); rintro e w114 ⟨rfl, hb⟩; have n0_ := aM (Kd.R_below (by (with_reducible repeat (first | apply rA | apply rN | apply rD)); exact HO_7.out) hb); have n1_ := aM (Kd.R_below (by (with_reducible repeat (first | apply rA | apply rN | apply rD)); exact HO_296.out) hb); have n2_ := aM (below_step (by repeat (first | (with_reducible first | exact HB.out | apply bA | apply bN | apply bD) | exact HB.out)) hb); clear HO_7; clear HO_296; clear HB; have HO_7 := n0_; have HO_296 := n1_; have HB := n2_; clear n0_ n1_ n2_; (try clear hb); (try clear hb2); (try clear hk); (try clear hi)) | (go_at_call 10; (with_reducible refine (impl_CountPairWays.calls k4 t544 t505 t548 t549 _ A111.out).mono ?_); rintro e w115 ⟨rfl, hb⟩; have n0_ := aM (Kd.R_below (by (with_reducible repeat (first | apply rA | apply rN | apply rD)); exact HO_7.out) hb); have n1_ := aM (Kd.R_below (by (with_reducible repeat (first | apply rA | apply rN | apply rD)); exact HO_296.out) hb); have n2_ := aM (below_step (by repeat (first | (with_reducible first | exact HB.out | apply bA | apply bN | apply bD) | exact HB.out)) hb); clear HO_7; clear HO_296; clear HB; have HO_7 := n0_; have HO_296 := n1_; have HB := n2_; clear n0_ n1_ n2_; (try clear hb); (try clear hb2); (try clear hk); (try clear hi))))
                               (try simp only [Act.put, sA, sB, sC])
                               go_cut [341] (fun v341 wc => ∃ (kq : Nat) (x341_111 : Bool), v341 = .bool x341_111 ∧ Aside0 (laws_FnPairsMove.j4 kq l1 t504 t505 t506 t514 t518 t539 x38_4 x39_4 (rd t538 x298_4) t546 t548 t538 (t538.length : Int) x298_4 x341_111 = some r) ∧ Aside0 (kq ≤ k4) ∧ Aside0 (Kd.R (Kd.int .i64) 3 wc w.heap.size (fun k_ => some k_ ≠ ((.slice (some ad543) t538.length co105) : Value).ownBlock) (.slice Ao74 t506.length co74) t506) ∧ Aside0 (Kd.R (Kd.int .i64) 3 wc w.heap.size (fun k_ => some k_ ≠ ((.slice Ao74 t506.length co74) : Value).ownBlock) (.slice (some ad543) t538.length co105) t538) ∧ Aside0 (Below w.heap.size w wc))
                               case first =>
                                as_aux_lemma =>
                                 have H := HC112.out
                                 clear HC112
                                 by_cases c116 : t545 = true
                                 ·subst c116
                                  have H1 : (if t547 = true then (if t549 = true then (if t546 < (wrap64 (t514 - 1)) then (none) else (laws_FnPairsMove.j4 k4 l1 t504 t505 t506 t514 t518 t539 x38_4 x39_4 (rd t538 x298_4) t546 t548 t538 (t538.length : Int) x298_4 (decide (t546 > (wrap64 (t514 + 1)))))) else (none)) else (none)) = some r := by rw [if_pos rfl] at H; exact H
                                  clear H; have H := H1; clear H1
                                  by_cases c117 : t547 = true
                                  ·subst c117
                                   have H1 : (if t549 = true then (if t546 < (wrap64 (t514 - 1)) then (none) else (laws_FnPairsMove.j4 k4 l1 t504 t505 t506 t514 t518 t539 x38_4 x39_4 (rd t538 x298_4) t546 t548 t538 (t538.length : Int) x298_4 (decide (t546 > (wrap64 (t514 + 1)))))) else (none)) = some r := by rw [if_pos rfl] at H; exact H
                                   clear H; have H := H1; clear H1
                                   by_cases c118 : t549 = true
                                   ·subst c118
                                    have H1 : (if t546 < (wrap64 (t514 - 1)) then (none) else (laws_FnPairsMove.j4 k4 l1 t504 t505 t506 t514 t518 t539 x38_4 x39_4 (rd t538 x298_4) t546 t548 t538 (t538.length : Int) x298_4 (decide (t546 > (wrap64 (t514 + 1)))))) = some r := by rw [if_pos rfl] at H; exact H
                                    clear H; have H := H1; clear H1
                                    by_cases c119 : t546 < (wrap64 (t514 - 1))
                                    ·rw [if_pos c119] at H
                                     exact absurd H (by simp)
                                    ·rw [if_neg c119] at H
                                     have c119b0 : decide (t546 < (wrap64 (t514 - 1))) = false := decide_eq_false c119
                                     clear c119
                                     (first | rw [c119b0] | (simp only [i64_w, i32_w]; rw [c119b0]) | skip)
                                     have H' := aM H
                                     clear H
                                     go_wp2
                                     repeat (go_quiet (fail); try go_wp2)
                                     go_meet
                                     case rel => exact ⟨_, (decide (t546 > (wrap64 (t514 + 1)))), (by first | rfl | (simp; done) | (simp [*]; done)), H', ⟨by have := HJ15.out; have := HK2.out; have := HJ81.out; have := HK4.out; first | omega | exact Nat.le_refl _⟩, ⟨by (with_reducible repeat (first | apply rA | apply rN | apply rD)); exact HO_7.out⟩, ⟨by (with_reducible repeat (first | apply rA | apply rN | apply rD)); exact HO_296.out⟩, ⟨by repeat (first | (with_reducible first | exact HB.out | apply bA | apply bN | apply bD) | exact HB.out)⟩⟩
                                   ·replace c118 := Bool.eq_false_iff.mpr c118
                                    subst c118
                                    have H1 : (none) = some r := by rw [if_neg (show ¬ (false = true) by decide)] at H; exact H
                                    exact absurd H1 (by simp)
                                  ·replace c117 := Bool.eq_false_iff.mpr c117
                                   subst c117
                                   have H1 : (none) = some r := by rw [if_neg (show ¬ (false = true) by decide)] at H; exact H
                                   exact absurd H1 (by simp)
                                 ·replace c116 := Bool.eq_false_iff.mpr c116
                                  subst c116
                                  have H1 : (none) = some r := by rw [if_neg (show ¬ (false = true) by decide)] at H; exact H
                                  exact absurd H1 (by simp)
                               case rest =>
                                as_aux_lemma =>
                                 clear HC112
                                 try clear c1
                                 try clear c2
                                 try clear p2
                                 try clear c3
                                 try clear c4
                                 try clear c5
                                 try clear p5
                                 try clear q5
                                 try clear hx5
                                 try clear c6
                                 try clear p6
                                 try clear c7
                                 try clear c8
                                 try clear c9
                                 try clear c10
                                 try clear c11
                                 try clear c28
                                 try clear c28b0
                                 try clear c28b1
                                 try clear c28b2
                                 try clear c30
                                 try clear c31
                                 try clear c31b0
                                 try clear c31b1
                                 try clear c31b2
                                 try clear c34
                                 try clear c34b0
                                 try clear c34b1
                                 try clear c35
                                 try clear c35b0
                                 try clear c35b1
                                 try clear c35b2
                                 try clear c38
                                 try clear c38b0
                                 try clear c38b1
                                 try clear c39
                                 try clear c39b0
                                 try clear c39b1
                                 try clear c39b2
                                 try clear c42
                                 try clear c42b0
                                 try clear c42b1
                                 try clear c43
                                 try clear c43b0
                                 try clear c43b1
                                 try clear c43b2
                                 try clear c46
                                 try clear c46b0
                                 try clear c46b1
                                 try clear c47
                                 try clear c47b0
                                 try clear c47b1
                                 try clear c47b2
                                 try clear c50
                                 try clear c50b0
                                 try clear c50b1
                                 try clear c50b2
                                 try clear c53
                                 try clear c53b0
                                 try clear c53b1
                                 try clear c53b2
                                 try clear p53
                                 try clear q53
                                 try clear hx53
                                 try clear p54
                                 try clear q54
                                 try clear hx54
                                 try clear p64
                                 try clear c68
                                 try clear c70
                                 try clear c78
                                 try clear c78b0
                                 try clear c79
                                 try clear c79b0
                                 try clear c80
                                 try clear c80b0
                                 try clear c81
                                 try clear c81b0
                                 try clear c81b1
                                 try clear c83
                                 try clear c83b0
                                 try clear c84
                                 try clear c85
                                 try clear c85b0
                                 try clear c85b1
                                 try clear c86
                                 try clear c86b0
                                 try clear c86b1
                                 try clear c87
                                 try clear c88
                                 try clear c88b0
                                 try clear c88b1
                                 try clear c89
                                 try clear c89b0
                                 try clear c90
                                 try clear c91
                                 try clear c91b0
                                 try clear c91b1
                                 try clear c92
                                 try clear c92b0
                                 try clear c93
                                 try clear c93b0
                                 try clear c93b1
                                 try clear c94
                                 try clear c94b0
                                 try clear c94b1
                                 try clear c95
                                 try clear c96
                                 try clear c96b0
                                 try clear c96b1
                                 try clear c97
                                 try clear c97b0
                                 try clear c98
                                 try clear c99
                                 try clear c99b0
                                 try clear c99b1
                                 try clear c100
                                 try clear c100b0
                                 try clear c101
                                 try clear c101b0
                                 try clear c101b1
                                 try clear c102
                                 try clear c106
                                 try clear c106b0
                                 try clear c107
                                 try clear c107b0
                                 try clear c108
                                 try clear c108b0
                                 try clear c116
                                 try clear c117
                                 try clear c118
                                 try clear c119
                                 try clear c119b0
                                 try clear hx537_0
                                 try clear hx543_0
                                 try clear p2
                                 try clear p5
                                 try clear p53
                                 try clear p537
                                 try clear p543
                                 try clear p6
                                 try clear p64
                                 try clear q5
                                 try clear q53
                                 try clear q537
                                 try clear q543
                                 obtain ⟨kq, x341_111, rfl, HA, HJ111, HO_7, HO_296, HB⟩ := hcut
                                 cases kq with
                                 | zero => exact absurd HA.out (by simp [laws_FnPairsMove.j4])
                                 | succ kj111 =>
                                  have H := HA.out
                                  clear HA
                                  simp only [laws_FnPairsMove.j4] at H
                                  by_cases c120 : x341_111 = true
                                  ·subst c120
                                   have H1 : (none) = some r := by rw [if_pos rfl] at H; exact H
                                   exact absurd H1 (by simp)
                                  ·replace c120 := Bool.eq_false_iff.mpr c120
                                   subst c120
                                   have H1 : (if t546 = (wrap64 (t514 - 1)) then (if x38_4 < 0 then (laws_FnPairsMove.l1 kj111 l1 t504 t505 t506 t514 t518 t539 (wrap64 ((rd t538 x298_4) + 1)) (wrap64 (x39_4 + t548)) t538 (t538.length : Int) (wrap64 (x298_4 + 1))) else (laws_FnPairsMove.l1 kj111 l1 t504 t505 t506 t514 t518 t539 x38_4 (wrap64 (x39_4 + t548)) t538 (t538.length : Int) (wrap64 (x298_4 + 1)))) else (laws_FnPairsMove.l1 kj111 l1 t504 t505 t506 t514 t518 t539 x38_4 x39_4 t538 (t538.length : Int) (wrap64 (x298_4 + 1)))) = some r := by rw [if_neg (show ¬ (false = true) by decide)] at H; exact H
                                   clear H; have H := H1; clear H1
                                   by_cases c121 : t546 = (wrap64 (t514 - 1))
                                   ·rw [if_pos c121] at H
                                    have c121b0 : (t546 == (wrap64 (t514 - 1))) = true := beq_iff_eq.mpr c121
                                    have c121b1 : (t546 != (wrap64 (t514 - 1))) = false := bne_eq_false_iff_eq.mpr c121
                                    clear c121
                                    by_cases c122 : x38_4 < 0
                                    ·rw [if_pos c122] at H
                                     have c122b0 : decide (x38_4 < 0) = true := decide_eq_true c122
                                     clear c122
                                     have H' := aM H
                                     clear H
                                     go_wp2
                                     repeat (go_quiet (fail); try go_wp2)
                                     go_roundg kj111
                                     case measure => have := HJ15.out; have := HK2.out; have := HJ81.out; have := HK4.out; have := HJ111.out; omega
                                     case rel => exact ⟨(wrap64 ((rd t538 x298_4) + 1)), (wrap64 (x39_4 + t548)), (wrap64 (x298_4 + 1)), (by first | rfl | (simp; done) | (simp [*]; done)), (by first | rfl | (simp; done) | (simp [*]; done)), (by first | rfl | (simp; done) | (simp [*]; done)), H', ⟨by have := HJ15.out; have := HK2.out; have := HJ81.out; have := HK4.out; have := HJ111.out; omega⟩, ⟨by (with_reducible repeat (first | apply rA | apply rN | apply rD)); exact HO_7.out⟩, ⟨by (with_reducible repeat (first | apply rA | apply rN | apply rD)); exact HO_296.out⟩, ⟨by repeat (first | (with_reducible first | exact HB.out | apply bA | apply bN | apply bD) | exact HB.out)⟩⟩
                                    ·rw [if_neg c122] at H
                                     have c122b0 : decide (x38_4 < 0) = false := decide_eq_false c122
                                     clear c122
                                     have H' := aM H
                                     clear H
                                     go_wp2
                                     repeat (go_quiet (fail); try go_wp2)
                                     go_roundg kj111
                                     case measure => have := HJ15.out; have := HK2.out; have := HJ81.out; have := HK4.out; have := HJ111.out; omega
                                     case rel => exact ⟨(x38_4), (wrap64 (x39_4 + t548)), (wrap64 (x298_4 + 1)), (by first | rfl | (simp; done) | (simp [*]; done)), (by first | rfl | (simp; done) | (simp [*]; done)), (by first | rfl | (simp; done) | (simp [*]; done)), H', ⟨by have := HJ15.out; have := HK2.out; have := HJ81.out; have := HK4.out; have := HJ111.out; omega⟩, ⟨by (with_reducible repeat (first | apply rA | apply rN | apply rD)); exact HO_7.out⟩, ⟨by (with_reducible repeat (first | apply rA | apply rN | apply rD)); exact HO_296.out⟩, ⟨by repeat (first | (with_reducible first | exact HB.out | apply bA | apply bN | apply bD) | exact HB.out)⟩⟩
                                   ·rw [if_neg c121] at H
                                    have c121b0 : (t546 == (wrap64 (t514 - 1))) = false := beq_eq_false_iff_ne.mpr c121
                                    have c121b1 : (t546 != (wrap64 (t514 - 1))) = true := bne_iff_ne.mpr c121
                                    have H' := aM H
                                    clear H
                                    go_wp2
                                    repeat (go_quiet (fail); try go_wp2)
                                    go_roundg kj111
                                    case measure => have := HJ15.out; have := HK2.out; have := HJ81.out; have := HK4.out; have := HJ111.out; omega
                                    case rel => exact ⟨(x38_4), (x39_4), (wrap64 (x298_4 + 1)), (by first | rfl | (simp; done) | (simp [*]; done)), (by first | rfl | (simp; done) | (simp [*]; done)), (by first | rfl | (simp; done) | (simp [*]; done)), H', ⟨by have := HJ15.out; have := HK2.out; have := HJ81.out; have := HK4.out; have := HJ111.out; omega⟩, ⟨by (with_reducible repeat (first | apply rA | apply rN | apply rD)); exact HO_7.out⟩, ⟨by (with_reducible repeat (first | apply rA | apply rN | apply rD)); exact HO_296.out⟩, ⟨by repeat (first | (with_reducible first | exact HB.out | apply bA | apply bN | apply bD) | exact HB.out)⟩⟩
                             ·rw [if_neg c108] at H
                              exact absurd H (by simp)
                           ·rw [if_neg c107] at H
                            exact absurd H (by simp)
                         ·as_aux_lemma =>
                           rw [if_neg c106] at H
                           have c106b0 : decide (x298_4 < (t538.length : Int)) = false := decide_eq_false c106
                           clear c106
                           by_cases c123 : t539 = true
                           ·subst c123
                            have H1 : (if t514 > 0 then (if x39_4 = t518 then (if 0 < (t506.length : Int) then (if (wrap64 ((rd t506 0) + 1)) = x38_4 then (laws_FnPairsMove.j5 k4 l1) else (none)) else (none)) else (none)) else (laws_FnPairsMove.j5 k4 l1)) = some r := by rw [if_pos rfl] at H; exact H
                            clear H; have H := H1; clear H1
                            by_cases c124 : t514 > 0
                            ·rw [if_pos c124] at H
                             have c124b0 : decide (0 < t514) = true := decide_eq_true c124
                             clear c124
                             by_cases c125 : x39_4 = t518
                             ·rw [if_pos c125] at H
                              have c125b0 : (x39_4 == t518) = true := beq_iff_eq.mpr c125
                              have c125b1 : (x39_4 != t518) = false := bne_eq_false_iff_eq.mpr c125
                              clear c125
                              by_cases c126 : 0 < (t506.length : Int)
                              ·rw [if_pos c126] at H
                               have c126b0 : decide (0 < (t506.length : Int)) = true := decide_eq_true c126
                               have c126b1 : decide (0 < t506.length) = true := decide_eq_true (by omega)
                               clear c126
                               by_cases c127 : (wrap64 ((rd t506 0) + 1)) = x38_4
                               ·rw [if_pos c127] at H
                                have c127b0 : ((wrap64 ((rd t506 0) + 1)) == x38_4) = true := beq_iff_eq.mpr c127
                                have c127b1 : ((wrap64 ((rd t506 0) + 1)) != x38_4) = false := bne_eq_false_iff_eq.mpr c127
                                clear c127
                                have H' := aM H
                                clear H
                                have p542 : 0 ≤ (0 : Int) := (by omega)
                                have q542 : 0 < (t506.length : Int) := of_decide_eq_true (by first | (with_reducible assumption) | assumption)
                                obtain ⟨ad542, e542, hx542_0⟩ := Kd.at_int (Kd.R_reads' HO_7.out).2.2 0 p542 q542
                                cases e542
                                have qi542 : (0 < t506.length) = True := eq_true (by omega)
                                (try rw [show ((0 : Int)).toNat = 0 from rfl] at hx542_0)
                                (try rw [Addr.add_zero'] at hx542_0)
                                replace p542 := eq_true p542
                                replace q542 := eq_true q542
                                go_wp2
                                repeat (go_quiet (fail); try go_wp2)
                                go_meet
                                case rel => exact ⟨_, H', ⟨by have := HJ15.out; have := HK2.out; have := HJ81.out; have := HK4.out; first | omega | exact Nat.le_refl _⟩, ⟨by repeat (first | (with_reducible first | exact HB.out | apply bA | apply bN | apply bD) | exact HB.out)⟩⟩
                               ·rw [if_neg c127] at H
                                exact absurd H (by simp)
                              ·rw [if_neg c126] at H
                               exact absurd H (by simp)
                             ·rw [if_neg c125] at H
                              exact absurd H (by simp)
                            ·rw [if_neg c124] at H
                             have c124b0 : decide (0 < t514) = false := decide_eq_false c124
                             clear c124
                             have H' := aM H
                             clear H
                             go_wp2
                             repeat (go_quiet (fail); try go_wp2)
                             go_meet
                             case rel => exact ⟨_, H', ⟨by have := HJ15.out; have := HK2.out; have := HJ81.out; have := HK4.out; first | omega | exact Nat.le_refl _⟩, ⟨by repeat (first | (with_reducible first | exact HB.out | apply bA | apply bN | apply bD) | exact HB.out)⟩⟩
                           ·replace c123 := Bool.eq_false_iff.mpr c123
                            subst c123
                            have H1 : (none) = some r := by rw [if_neg (show ¬ (false = true) by decide)] at H; exact H
                            exact absurd H1 (by simp)
          ·replace c70 := Bool.eq_false_iff.mpr c70
           subst c70
           have H1 : (laws_FnPairsMove.j5 kj15 l1) = some r := by rw [if_neg (show ¬ (false = true) by decide)] at H; exact H
           clear H; have H := H1; clear H1
           have H' := aM H
           clear H
           go_wp2
           repeat (go_quiet (fail); try go_wp2)
           go_meet
           case rel => exact ⟨_, H', ⟨by have := HJ15.out; first | omega | exact Nat.le_refl _⟩, ⟨by repeat (first | (with_reducible first | exact HB.out | apply bA | apply bN | apply bD) | exact HB.out)⟩⟩
        case rest =>
         as_aux_lemma =>
          clear HC69
          try clear c1
          try clear c2
          try clear p2
          try clear c3
          try clear c4
          try clear c5
          try clear p5
          try clear q5
          try clear hx5
          try clear qi5
          try clear c6
          try clear p6
          try clear c7
          try clear c8
          try clear c9
          try clear c10
          try clear c11
          try clear c12
          try clear c28
          try clear c28b0
          try clear c28b1
          try clear c28b2
          try clear c30
          try clear c31
          try clear c31b0
          try clear c31b1
          try clear c31b2
          try clear c34
          try clear c34b0
          try clear c34b1
          try clear c35
          try clear c35b0
          try clear c35b1
          try clear c35b2
          try clear c38
          try clear c38b0
          try clear c38b1
          try clear c39
          try clear c39b0
          try clear c39b1
          try clear c39b2
          try clear c42
          try clear c42b0
          try clear c42b1
          try clear c43
          try clear c43b0
          try clear c43b1
          try clear c43b2
          try clear c46
          try clear c46b0
          try clear c46b1
          try clear c47
          try clear c47b0
          try clear c47b1
          try clear c47b2
          try clear c50
          try clear c50b0
          try clear c50b1
          try clear c50b2
          try clear c53
          try clear c53b0
          try clear c53b1
          try clear c53b2
          try clear p53
          try clear q53
          try clear hx53
          try clear p54
          try clear q54
          try clear hx54
          try clear qi54
          try clear p64
          try clear c68
          try clear c70
          try clear c78
          try clear c78b0
          try clear c79
          try clear c79b0
          try clear c80
          try clear c80b0
          try clear c81
          try clear c81b0
          try clear c81b1
          try clear c83
          try clear c83b0
          try clear c84
          try clear c85
          try clear c85b0
          try clear c85b1
          try clear c86
          try clear c86b0
          try clear c86b1
          try clear c87
          try clear c88
          try clear c88b0
          try clear c88b1
          try clear c89
          try clear c89b0
          try clear c90
          try clear c91
          try clear c91b0
          try clear c91b1
          try clear c92
          try clear c92b0
          try clear c93
          try clear c93b0
          try clear c93b1
          try clear c94
          try clear c94b0
          try clear c94b1
          try clear c95
          try clear c96
          try clear c96b0
          try clear c96b1
          try clear c97
          try clear c97b0
          try clear c98
          try clear c99
          try clear c99b0
          try clear c99b1
          try clear c100
          try clear c100b0
          try clear c101
          try clear c101b0
          try clear c101b1
          try clear c102
          try clear c106
          try clear c106b0
          try clear c107
          try clear c107b0
          try clear c108
          try clear c108b0
          try clear c116
          try clear c117
          try clear c118
          try clear c119
          try clear c119b0
          try clear c120
          try clear c121
          try clear c121b0
          try clear c121b1
          try clear c122
          try clear c122b0
          try clear c123
          try clear c124
          try clear c124b0
          try clear c125
          try clear c125b0
          try clear c125b1
          try clear c126
          try clear c126b0
          try clear c126b1
          try clear c127
          try clear c127b0
          try clear c127b1
          try clear hx537_0
          try clear hx542_0
          try clear hx543_0
          try clear p2
          try clear p5
          try clear p53
          try clear p537
          try clear p54
          try clear p542
          try clear p543
          try clear p6
          try clear p64
          try clear q5
          try clear q53
          try clear q537
          try clear q54
          try clear q542
          try clear q543
          obtain ⟨kq, HA, HJ68, HB⟩ := hcut
          cases kq with
          | zero => exact absurd HA.out (by simp [laws_FnPairsMove.j5])
          | succ kj68 =>
           have H := HA.out
           clear HA
           simp only [laws_FnPairsMove.j5] at H
           replace H := Option.bind_eq_some_iff.mp H
           obtain ⟨⟨t550, t551⟩, A1280, H⟩ := H
           replace H : ((impl_PlayPairMoves.f kj68 t550 t551).bind fun bt554 => ((spec_PlayPairMoves.f kj68 t550 t551).bind fun bt556 => ((spec_DrawPairMovesOf.f kj68 l1).bind fun t558 => ((impl_PairMovesOf.f kj68 t558).bind fun bt559 => ((spec_PairMovesOf.f kj68 t558).bind fun bt563 => ((spec_DrawMakePairMove.f kj68 l1).bind fun bt567 => ((impl_MakePairMove.f bt567.1 bt567.2).bind fun bt569 => ((spec_MakePairMove.f kj68 bt567.1 bt567.2).bind fun bt571 => (if (bt554.2 != bt556.2) = true then (none) else (if bt554.1.toList = bt556.1.toList then (if (bt559.2 != bt563.2) = true then (none) else ((laws_ySame.f kj68 bt559.1 bt563.1).bind fun t573 => (if t573 = true then (if (bt569.2 != bt571.2) = true then (none) else (laws_FnPairsMove.j6 kj68 t558 bt559.1 bt559.2 bt567.1 bt567.2 bt569.1 bt569.2 (bt569.1.toList != bt571.1.toList))) else (none)))) else (none))))))))))) = some r := H
           have A128 := aM A1280
           clear A1280
           replace H := Option.bind_eq_some_iff.mp H
           obtain ⟨⟨t554, t555⟩, A1290, H⟩ := H
           replace H : ((spec_PlayPairMoves.f kj68 t550 t551).bind fun bt556 => ((spec_DrawPairMovesOf.f kj68 l1).bind fun t558 => ((impl_PairMovesOf.f kj68 t558).bind fun bt559 => ((spec_PairMovesOf.f kj68 t558).bind fun bt563 => ((spec_DrawMakePairMove.f kj68 l1).bind fun bt567 => ((impl_MakePairMove.f bt567.1 bt567.2).bind fun bt569 => ((spec_MakePairMove.f kj68 bt567.1 bt567.2).bind fun bt571 => (if (t555 != bt556.2) = true then (none) else (if t554.toList = bt556.1.toList then (if (bt559.2 != bt563.2) = true then (none) else ((laws_ySame.f kj68 bt559.1 bt563.1).bind fun t573 => (if t573 = true then (if (bt569.2 != bt571.2) = true then (none) else (laws_FnPairsMove.j6 kj68 t558 bt559.1 bt559.2 bt567.1 bt567.2 bt569.1 bt569.2 (bt569.1.toList != bt571.1.toList))) else (none)))) else (none)))))))))) = some r := H
           have A129 := aM A1290
           clear A1290
           replace H := Option.bind_eq_some_iff.mp H
           obtain ⟨⟨t556, t557⟩, A1300, H⟩ := H
           replace H : ((spec_DrawPairMovesOf.f kj68 l1).bind fun t558 => ((impl_PairMovesOf.f kj68 t558).bind fun bt559 => ((spec_PairMovesOf.f kj68 t558).bind fun bt563 => ((spec_DrawMakePairMove.f kj68 l1).bind fun bt567 => ((impl_MakePairMove.f bt567.1 bt567.2).bind fun bt569 => ((spec_MakePairMove.f kj68 bt567.1 bt567.2).bind fun bt571 => (if (t555 != t557) = true then (none) else (if t554.toList = t556.toList then (if (bt559.2 != bt563.2) = true then (none) else ((laws_ySame.f kj68 bt559.1 bt563.1).bind fun t573 => (if t573 = true then (if (bt569.2 != bt571.2) = true then (none) else (laws_FnPairsMove.j6 kj68 t558 bt559.1 bt559.2 bt567.1 bt567.2 bt569.1 bt569.2 (bt569.1.toList != bt571.1.toList))) else (none)))) else (none))))))))) = some r := H
           have A130 := aM A1300
           clear A1300
           replace H := Option.bind_eq_some_iff.mp H
           obtain ⟨t558, A1310, H⟩ := H
           replace H : ((impl_PairMovesOf.f kj68 t558).bind fun bt559 => ((spec_PairMovesOf.f kj68 t558).bind fun bt563 => ((spec_DrawMakePairMove.f kj68 l1).bind fun bt567 => ((impl_MakePairMove.f bt567.1 bt567.2).bind fun bt569 => ((spec_MakePairMove.f kj68 bt567.1 bt567.2).bind fun bt571 => (if (t555 != t557) = true then (none) else (if t554.toList = t556.toList then (if (bt559.2 != bt563.2) = true then (none) else ((laws_ySame.f kj68 bt559.1 bt563.1).bind fun t573 => (if t573 = true then (if (bt569.2 != bt571.2) = true then (none) else (laws_FnPairsMove.j6 kj68 t558 bt559.1 bt559.2 bt567.1 bt567.2 bt569.1 bt569.2 (bt569.1.toList != bt571.1.toList))) else (none)))) else (none)))))))) = some r := H
           have A131 := aM A1310
           clear A1310
           replace H := Option.bind_eq_some_iff.mp H
           obtain ⟨⟨t559, t560⟩, A1320, H⟩ := H
           replace H : ((spec_PairMovesOf.f kj68 t558).bind fun bt563 => ((spec_DrawMakePairMove.f kj68 l1).bind fun bt567 => ((impl_MakePairMove.f bt567.1 bt567.2).bind fun bt569 => ((spec_MakePairMove.f kj68 bt567.1 bt567.2).bind fun bt571 => (if (t555 != t557) = true then (none) else (if t554.toList = t556.toList then (if (t560 != bt563.2) = true then (none) else ((laws_ySame.f kj68 t559 bt563.1).bind fun t573 => (if t573 = true then (if (bt569.2 != bt571.2) = true then (none) else (laws_FnPairsMove.j6 kj68 t558 t559 t560 bt567.1 bt567.2 bt569.1 bt569.2 (bt569.1.toList != bt571.1.toList))) else (none)))) else (none))))))) = some r := H
           have A132 := aM A1320
           clear A1320
           replace H := Option.bind_eq_some_iff.mp H
           obtain ⟨⟨t563, t564⟩, A1330, H⟩ := H
           replace H : ((spec_DrawMakePairMove.f kj68 l1).bind fun bt567 => ((impl_MakePairMove.f bt567.1 bt567.2).bind fun bt569 => ((spec_MakePairMove.f kj68 bt567.1 bt567.2).bind fun bt571 => (if (t555 != t557) = true then (none) else (if t554.toList = t556.toList then (if (t560 != t564) = true then (none) else ((laws_ySame.f kj68 t559 t563).bind fun t573 => (if t573 = true then (if (bt569.2 != bt571.2) = true then (none) else (laws_FnPairsMove.j6 kj68 t558 t559 t560 bt567.1 bt567.2 bt569.1 bt569.2 (bt569.1.toList != bt571.1.toList))) else (none)))) else (none)))))) = some r := H
           have A133 := aM A1330
           clear A1330
           replace H := Option.bind_eq_some_iff.mp H
           obtain ⟨⟨t567, t568⟩, A1340, H⟩ := H
           replace H : ((impl_MakePairMove.f t567 t568).bind fun bt569 => ((spec_MakePairMove.f kj68 t567 t568).bind fun bt571 => (if (t555 != t557) = true then (none) else (if t554.toList = t556.toList then (if (t560 != t564) = true then (none) else ((laws_ySame.f kj68 t559 t563).bind fun t573 => (if t573 = true then (if (bt569.2 != bt571.2) = true then (none) else (laws_FnPairsMove.j6 kj68 t558 t559 t560 t567 t568 bt569.1 bt569.2 (bt569.1.toList != bt571.1.toList))) else (none)))) else (none))))) = some r := H
           have A134 := aM A1340
           clear A1340
           replace H := Option.bind_eq_some_iff.mp H
           obtain ⟨⟨t569, t570⟩, A1350, H⟩ := H
           replace H : ((spec_MakePairMove.f kj68 t567 t568).bind fun bt571 => (if (t555 != t557) = true then (none) else (if t554.toList = t556.toList then (if (t560 != t564) = true then (none) else ((laws_ySame.f kj68 t559 t563).bind fun t573 => (if t573 = true then (if (t570 != bt571.2) = true then (none) else (laws_FnPairsMove.j6 kj68 t558 t559 t560 t567 t568 t569 t570 (t569.toList != bt571.1.toList))) else (none)))) else (none)))) = some r := H
           have A135 := aM A1350
           clear A1350
           replace H := Option.bind_eq_some_iff.mp H
           obtain ⟨⟨t571, t572⟩, A1360, H⟩ := H
           replace H : (if (t555 != t557) = true then (none) else (if t554.toList = t556.toList then (if (t560 != t564) = true then (none) else ((laws_ySame.f kj68 t559 t563).bind fun t573 => (if t573 = true then (if (t570 != t572) = true then (none) else (laws_FnPairsMove.j6 kj68 t558 t559 t560 t567 t568 t569 t570 (t569.toList != t571.toList))) else (none)))) else (none))) = some r := H
           have A136 := aM A1360
           clear A1360
           have HC137 := aM H
           clear H
           go_upto_region 55 with (first | (go_at_call 21; (with_reducible refine (spec_DrawPlayPairMoves.calls kj68 _ _ l1 t550 t551 _ ?side1 ?side2 A128.out).mono ?_); (case side1 => repeat (first | exact (Kd.C_below HR1.out HB.out) | (with_reducible refine cA ?_ _) | (with_reducible refine cN ?_ _) | (with_reducible refine cD ?_))); (case side2 => exact HC1.out); rintro e w138 ⟨v552, rfl, ho0, hb⟩; have n0_ := aM (Kd.R_lower ho0 (below_size (by repeat (first | (with_reducible first | exact HB.out | apply bA | apply bN | apply bD) | exact HB.out)))); have n1_ := aM (below_step (by repeat (first | (with_reducible first | exact HB.out | apply bA | apply bN | apply bD) | exact HB.out)) hb); clear HB; have HO553 := n0_; have HB := n1_; clear n0_ n1_; (try clear hb); (try clear hb2); (try clear hk); (try clear hi); (try clear ho0); obtain ⟨Ao139, co139, eo139⟩ := Kd.R_slice HO553.out; subst eo139) | (go_at_call 17; (with_reducible refine (impl_PlayPairMoves.calls kj68 t550 _ _ t551 t554 t555 _ ?side1 ?side2 A129.out).mono ?_); (case side1 => repeat (first | exact (Kd.R_reads' HO553.out).2.2 | (with_reducible refine cA ?_ _) | (with_reducible refine cN ?_ _) | (with_reducible refine cD ?_))); (case side2 => exact (Kd.R_reads' HO553.out).2.1); rintro e w140 ⟨rfl, hb⟩; have n0_ := aM (Kd.R_below (by (with_reducible repeat (first | apply rA | apply rN | apply rD)); exact HO553.out) hb); have n1_ := aM (below_step (by repeat (first | (with_reducible first | exact HB.out | apply bA | apply bN | apply bD) | exact HB.out)) hb); clear HO553; clear HB; have HO553 := n0_; have HB := n1_; clear n0_ n1_; (try clear hb); (try clear hb2); (try clear hk); (try clear hi)) | (go_at_call 22; (with_reducible refine (spec_PlayPairMoves.calls kj68 t550 _ _ t551 t556 t557 _ ?side1 ?side2 A130.out).mono ?_); (case side1 => repeat (first | exact (Kd.R_reads' HO553.out).2.2 | (with_reducible refine cA ?_ _) | (with_reducible refine cN ?_ _) | (with_reducible refine cD ?_))); (case side2 => exact (Kd.R_reads' HO553.out).2.1); rintro e w141 ⟨rfl, hb⟩; have n0_ := aM (Kd.R_below (by (with_reducible repeat (first | apply rA | apply rN | apply rD)); exact HO553.out) hb); have n1_ := aM (below_step (by repeat (first | (with_reducible first | exact HB.out | apply bA | apply bN | apply bD) | exact HB.out)) hb); clear HO553; clear HB; have HO553 := n0_; have HB := n1_; clear n0_ n1_; (try clear hb); (try clear hb2); (try clear hk); (try clear hi)) | (go_at_call 23; (with_reducible refine (spec_DrawPairMovesOf.calls kj68 _ _ l1 t558 _ ?side1 ?side2 A131.out).mono ?_); (case side1 => repeat (first | exact (Kd.C_below HR1.out HB.out) | (with_reducible refine cA ?_ _) | (with_reducible refine cN ?_ _) | (with_reducible refine cD ?_))); (case side2 => exact HC1.out); rintro e w142 ⟨rfl, hb⟩; have n0_ := aM (Kd.R_below (by (with_reducible repeat (first | apply rA | apply rN | apply rD)); exact HO553.out) hb); have n1_ := aM (below_step (by repeat (first | (with_reducible first | exact HB.out | apply bA | apply bN | apply bD) | exact HB.out)) hb); clear HO553; clear HB; have HO553 := n0_; have HB := n1_; clear n0_ n1_; (try clear hb); (try clear hb2); (try clear hk); (try clear hi)) | (go_at_call 19; (with_reducible refine (impl_PairMovesOf.calls kj68 t558 t559 t560 _ A132.out).mono ?_); rintro e w143 ⟨v561, rfl, ho0, hb⟩; have n0_ := aM (Kd.R_elder' (by (with_reducible repeat (first | apply rA | apply rN | apply rD)); exact HO553.out) (Kd.R_base ho0) hb); have n1_ := aM (Kd.R_lower (Kd.R_new' ho0 (Kd.R_lt (by (with_reducible repeat (first | apply rA | apply rN | apply rD)); exact HO553.out))) (below_size (by repeat (first | (with_reducible first | exact HB.out | apply bA | apply bN | apply bD) | exact HB.out)))); have n2_ := aM (below_step (by repeat (first | (with_reducible first | exact HB.out | apply bA | apply bN | apply bD) | exact HB.out)) hb); clear HO553; clear HB; have HO553 := n0_; have HO562 := n1_; have HB := n2_; clear n0_ n1_ n2_; (try clear hb); (try clear hb2); (try clear hk); (try clear hi); (try clear ho0)) | (go_at_call 24; (with_reducible refine (spec_PairMovesOf.calls kj68 t558 t563 t564 _ A133.out).mono ?_); rintro e w144 ⟨v565, rfl, ho0, hb⟩; have n0_ := aM (Kd.R_elder' (by (with_reducible repeat (first | apply rA | apply rN | apply rD)); exact HO553.out) (Kd.R_base ho0) hb); have n1_ := aM (Kd.R_elder' (by (with_reducible repeat (first | apply rA | apply rN | apply rD)); exact HO562.out) (Kd.R_base ho0) hb); have n2_ := aM (Kd.R_lower (Kd.R_new' (Kd.R_new' ho0 (Kd.R_lt (by (with_reducible repeat (first | apply rA | apply rN | apply rD)); exact HO553.out))) (Kd.R_lt (by (with_reducible repeat (first | apply rA | apply rN | apply rD)); exact HO562.out))) (below_size (by repeat (first | (with_reducible first | exact HB.out | apply bA | apply bN | apply bD) | exact HB.out)))); have n3_ := aM (below_step (by repeat (first | (with_reducible first | exact HB.out | apply bA | apply bN | apply bD) | exact HB.out)) hb); clear HO553; clear HO562; clear HB; have HO553 := n0_; have HO562 := n1_; have HO566 := n2_; have HB := n3_; clear n0_ n1_ n2_ n3_; (try clear hb); (try clear hb2); (try clear hk); (try clear hi); (try clear ho0)) | (go_at_call 25; (with_reducible refine (spec_DrawMakePairMove.calls kj68 _ _ l1 t567 t568 _ ?side1 ?side2 A134.out).mono ?_); (case side1 => repeat (first | exact (Kd.C_below HR1.out HB.out) | (with_reducible refine cA ?_ _) | (with_reducible refine cN ?_ _) | (with_reducible refine cD ?_))); (case side2 => exact HC1.out); rintro e w145 ⟨rfl, hb⟩; have n0_ := aM (Kd.R_below (by (with_reducible repeat (first | apply rA | apply rN | apply rD)); exact HO553.out) hb); have n1_ := aM (Kd.R_below (by (with_reducible repeat (first | apply rA | apply rN | apply rD)); exact HO562.out) hb); have n2_ := aM (Kd.R_below (by (with_reducible repeat (first | apply rA | apply rN | apply rD)); exact HO566.out) hb); have n3_ := aM (below_step (by repeat (first | (with_reducible first | exact HB.out | apply bA | apply bN | apply bD) | exact HB.out)) hb); clear HO553; clear HO562; clear HO566; clear HB; have HO553 := n0_; have HO562 := n1_; have HO566 := n2_; have HB := n3_; clear n0_ n1_ n2_ n3_; (try clear hb); (try clear hb2); (try clear hk); (try clear hi)) | (go_at_call 20; (with_reducible refine (impl_MakePairMove.calls t567 t568 t569 t570 _ A135.out).mono ?_); rintro e w146 ⟨rfl, hb⟩; have n0_ := aM (Kd.R_below (by (with_reducible repeat (first | apply rA | apply rN | apply rD)); exact HO553.out) hb); have n1_ := aM (Kd.R_below (by (with_reducible repeat (first | apply rA | apply rN | apply rD)); exact HO562.out) hb); have n2_ := aM (Kd.R_below (by (with_reducible repeat (first | apply rA | apply rN | apply rD)); exact HO566.out) hb); have n3_ := aM (below_step (by repeat (first | (with_reducible first | exact HB.out | apply bA | apply bN | apply bD) | exact HB.out)) hb); clear HO553; clear HO562; clear HO566; clear HB; have HO553 := n0_; have HO562 := n1_; have HO566 := n2_; have HB := n3_; clear n0_ n1_ n2_ n3_; (try clear hb); (try clear hb2); (try clear hk); (try clear hi)) | (go_at_call 26; (with_reducible refine (spec_MakePairMove.calls kj68 t567 t568 t571 t572 _ A136.out).mono ?_); rintro e w147 ⟨rfl, hb⟩; have n0_ := aM (Kd.R_below (by (with_reducible repeat (first | apply rA | apply rN | apply rD)); exact HO553.out) hb); have n1_ := aM (Kd.R_below (by (with_reducible repeat (first | apply rA | apply rN | apply rD)); exact HO562.out) hb); have n2_ := aM (Kd.R_below (by (with_reducible repeat (first | apply rA | apply rN | apply rD)); exact HO566.out) hb); have n3_ := aM (below_step (by repeat (first | (with_reducible first | exact HB.out | apply bA | apply bN | apply bD) | exact HB.out)) hb); clear HO553; clear HO562; clear HO566; clear HB; have HO553 := n0_; have HO562 := n1_; have HO566 := n2_; have HB := n3_; clear n0_ n1_ n2_ n3_; (try clear hb); (try clear hb2); (try clear hk); (try clear hi)))
           repeat (go_quiet (first | (go_at_call 21; (with_reducible refine (spec_DrawPlayPairMoves.calls kj68 _ _ l1 t550 t551 _ ?side1 ?side2 A128.out).mono ?_); (case side1 => repeat (first | exact (Kd.C_below HR1.out HB.out) | (with_reducible refine cA ?_ _) | (with_reducible refine cN ?_ _) | (with_reducible refine cD ?_))); (case side2 => exact HC1.out); rintro e w138 ⟨v552, rfl, ho0, hb⟩; have n0_ := aM (Kd.R_lower ho0 (below_size (by repeat (first | (with_reducible first | exact HB.out | apply bA | apply bN | apply bD) | exact HB.out)))); have n1_ := aM (below_step (by repeat (first | (with_reducible first | exact HB.out | apply bA | apply bN | apply bD) | exact HB.out)) hb); clear HB; have HO553 := n0_; have HB := n1_; clear n0_ n1_; (try clear hb); (try clear hb2); (try clear hk); (try clear hi); (try clear ho0); obtain ⟨Ao139, co139, eo139⟩ := Kd.R_slice HO553.out; subst eo139) | (go_at_call 17; (with_reducible refine (impl_PlayPairMoves.calls kj68 t550 _ _ t551 t554 t555 _ ?side1 ?side2 A129.out).mono ?_); (case side1 => repeat (first | exact (Kd.R_reads' HO553.out).2.2 | (with_reducible refine cA ?_ _) | (with_reducible refine cN ?_ _) | (with_reducible refine cD ?_))); (case side2 => exact (Kd.R_reads' HO553.out).2.1); rintro e w140 ⟨rfl, hb⟩; have n0_ := aM (Kd.R_below (by (with_reducible repeat (first | apply rA | apply rN | apply rD)); exact HO553.out) hb); have n1_ := aM (below_step (by repeat (first | (with_reducible first | exact HB.out | apply bA | apply bN | apply bD) | exact HB.out)) hb); clear HO553; clear HB; have HO553 := n0_; have HB := n1_; clear n0_ n1_; (try clear hb); (try clear hb2); (try clear hk); (try clear hi)) | (go_at_call 22; (with_reducible refine (spec_PlayPairMoves.calls kj68 t550 _ _ t551 t556 t557 _ ?side1 ?side2 A130.out).mono ?_); (case side1 => repeat (first | exact (Kd.R_reads' HO553.out).2.2 | (with_reducible refine cA ?_ _) | (with_reducible refine cN ?_ _) | (with_reducible refine cD ?_))); (case side2 => exact (Kd.R_reads' HO553.out).2.1); rintro e w141 ⟨rfl, hb⟩; have n0_ := aM (Kd.R_below (by (with_reducible repeat (first | apply rA | apply rN | apply rD)); exact HO553.out) hb); have n1_ := aM (below_step (by repeat (first | (with_reducible first | exact HB.out | apply bA | apply bN | apply bD) | exact HB.out)) hb); clear HO553; clear HB; have HO553 := n0_; have HB := n1_; clear n0_ n1_; (try clear hb); (try clear hb2); (try clear hk); (try clear hi)) | (go_at_call 23; (with_reducible refine (spec_DrawPairMovesOf.calls kj68 _ _ l1 t558 _ ?side1 ?side2 A131.out).mono ?_); (case side1 => repeat (first | exact (Kd.C_below HR1.out HB.out) | (with_reducible refine cA ?_ _) | (with_reducible refine cN ?_ _) | (with_reducible refine cD ?_))); (case side2 => exact HC1.out); rintro e w142 ⟨rfl, hb⟩; have n0_ := aM (Kd.R_below (by (with_reducible repeat (first | apply rA | apply rN | apply rD)); exact HO553.out) hb); have n1_ := aM (below_step (by repeat (first | (with_reducible first | exact HB.out | apply bA | apply bN | apply bD) | exact HB.out)) hb); clear HO553; clear HB; have HO553 := n0_; have HB := n1_; clear n0_ n1_; (try clear hb); (try clear hb2); (try clear hk); (try clear hi)) | (go_at_call 19; (with_reducible refine (impl_PairMovesOf.calls kj68 t558 t559 t560 _ A132.out).mono ?_); rintro e w143 ⟨v561, rfl, ho0, hb⟩; have n0_ := aM (Kd.R_elder' (by (with_reducible repeat (first | apply rA | apply rN | apply rD)); exact HO553.out) (Kd.R_base ho0) hb); have n1_ := aM (Kd.R_lower (Kd.R_new' ho0 (Kd.R_lt (by (with_reducible repeat (first | apply rA | apply rN | apply rD)); exact HO553.out))) (below_size (by repeat (first | (with_reducible first | exact HB.out | apply bA | apply bN | apply bD) | exact HB.out)))); have n2_ := aM (below_step (by repeat (first | (with_reducible first | exact HB.out | apply bA | apply bN | apply bD) | exact HB.out)) hb); clear HO553; clear HB; have HO553 := n0_; have HO562 := n1_; have HB := n2_; clear n0_ n1_ n2_; (try clear hb); (try clear hb2); (try clear hk); (try clear hi); (try clear ho0)) | (go_at_call 24; (with_reducible refine (spec_PairMovesOf.calls kj68 t558 t563 t564 _ A133.out).mono ?_); rintro e w144 ⟨v565, rfl, ho0, hb⟩; have n0_ := aM (Kd.R_elder' (by (with_reducible repeat (first | apply rA | apply rN | apply rD)); exact HO553.out) (Kd.R_base ho0) hb); have n1_ := aM (Kd.R_elder' (by (with_reducible repeat (first | apply rA | apply rN | apply rD)); exact HO562.out) (Kd.R_base ho0) hb); have n2_ := aM (Kd.R_lower (Kd.R_new' (Kd.R_new' ho0 (Kd.R_lt (by (with_reducible repeat (first | apply rA | apply rN | apply rD)); exact HO553.out))) (Kd.R_lt (by (with_reducible repeat (first | apply rA | apply rN | apply rD)); exact HO562.out))) (below_size (by repeat (first | (with_reducible first | exact HB.out | apply bA | apply bN | apply bD) | exact HB.out)))); have n3_ := aM (below_step (by repeat (first | (with_reducible first | exact HB.out | apply bA | apply bN | apply bD) | exact HB.out)) hb); clear HO553; clear HO562; clear HB; have HO553 := n0_; have HO562 := n1_; have HO566 := n2_; have HB := n3_; clear n0_ n1_ n2_ n3_; (try clear hb); (try clear hb2); (try clear hk); (try clear hi); (try clear ho0)) | (go_at_call 25; (with_reducible refine (spec_DrawMakePairMove.calls kj68 _ _ l1 t567 t568 _ ?side1 ?side2 A134.out).mono ?_); (case side1 => repeat (first | exact (Kd.C_below HR1.out HB.out) | (with_reducible refine cA ?_ _) | (with_reducible refine cN ?_ _) | (with_reducible refine cD ?_))); (case side2 => exact HC1.out); rintro e w145 ⟨rfl, hb⟩; have n0_ := aM (Kd.R_below (by (with_reducible repeat (first | apply rA | apply rN | apply rD)); exact HO553.out) hb); have n1_ := aM (Kd.R_below (by (with_reducible repeat (first | apply rA | apply rN | apply rD)); exact HO562.out) hb); have n2_ := aM (Kd.R_below (by (with_reducible repeat (first | apply rA | apply rN | apply rD)); exact HO566.out) hb); have n3_ := aM (below_step (by repeat (first | (with_reducible first | exact HB.out | apply bA | apply bN | apply bD) | exact HB.out)) hb); clear HO553; clear HO562; clear HO566; clear HB; have HO553 := n0_; have HO562 := n1_; have HO566 := n2_; have HB := n3_; clear n0_ n1_ n2_ n3_; (try clear hb); (try clear hb2); (try clear hk); (try clear hi)) | (go_at_call 20; (with_reducible refine (impl_MakePairMove.calls t567 t568 t569 t570 _ A135.out).mono ?_); rintro e w146 ⟨rfl, hb⟩; have n0_ := aM (Kd.R_below (by (with_reducible repeat (first | apply rA | apply rN | apply rD)); exact HO553.out) hb); have n1_ := aM (Kd.R_below (by (with_reducible repeat (first | apply rA | apply rN | apply rD)); exact HO562.out) hb); have n2_ := aM (Kd.R_below (by (with_reducible repeat (first | apply rA | apply rN | apply rD)); exact HO566.out) hb); have n3_ := aM (below_step (by repeat (first | (with_reducible first | exact HB.out | apply bA | apply bN | apply bD) | exact HB.out)) hb); clear HO553; clear HO562; clear HO566; clear HB; have HO553 := n0_; have HO562 := n1_; have HO566 := n2_; have HB := n3_; clear n0_ n1_ n2_ n3_; (try clear hb); (try clear hb2); (try clear hk); (try clear hi)) | (go_at_call 26; (with_reducible refine (spec_MakePairMove.calls kj68 t567 t568 t571 t572 _ A136.out).mono ?_); rintro e w147 ⟨rfl, hb⟩; have n0_ := aM (Kd.R_below (by (with_reducible repeat (first | apply rA | apply rN | apply rD)); exact HO553.out) hb); have n1_ := aM (Kd.R_below (by (with_reducible repeat (first | apply rA | apply rN | apply rD)); exact HO562.out) hb); have n2_ := aM (Kd.R_below (by (with_reducible repeat (first | apply rA | apply rN | apply rD)); exact HO566.out) hb); have n3_ := aM (below_step (by repeat (first | (with_reducible first | exact HB.out | apply bA | apply bN | apply bD) | exact HB.out)) hb); clear HO553; clear HO562; clear HO566; clear HB; have HO553 := n0_; have HO562 := n1_; have HO566 := n2_; have HB := n3_; clear n0_ n1_ n2_ n3_; (try clear hb); (try clear hb2); (try clear hk); (try clear hi))); go_upto_region 55 with (first | (go_at_call 21; (with_reducible refine (spec_DrawPlayPairMoves.calls kj68 _ _ l1 t550 t551 _ ?side1 ?side2 A128.out).mono ?_); (case side1 => repeat (first | exact (Kd.C_below HR1.out HB.out) | (with_reducible refine cA ?_ _) | (with_reducible refine cN ?_ _) | (with_reducible refine cD ?_))); (case side2 => exact HC1.out); rintro e w138 ⟨v552, rfl, ho0, hb⟩; have n0_ := aM (Kd.R_lower ho0 (below_size (by repeat (first | (with_reducible first | exact HB.out | apply bA | apply bN | apply bD) | exact HB.out)))); have n1_ := aM (below_step (by repeat (first | (with_reducible first | exact HB.out | apply bA | apply bN | apply bD) | exact HB.out)) hb); clear HB; have HO553 := n0_; have HB := n1_; clear n0_ n1_; (try clear hb); (try clear hb2); (try clear hk); (try clear hi); (try clear ho0); obtain ⟨Ao139, co139, eo139⟩ := Kd.R_slice HO553.out; subst eo139) | (go_at_call 17; (with_reducible refine (impl_PlayPairMoves.calls kj68 t550 _ _ t551 t554 t555 _ ?side1 ?side2 A129.out).mono ?_); (case side1 => repeat (first | exact (Kd.R_reads' HO553.out).2.2 | (with_reducible refine cA ?_ _) | (with_reducible refine cN ?_ _) | (with_reducible refine cD ?_))); (case side2 => exact (Kd.R_reads' HO553.out).2.1); rintro e w140 ⟨rfl, hb⟩; have n0_ := aM (Kd.R_below (by (with_reducible repeat (first | apply rA | apply rN | apply rD)); exact HO553.out) hb); have n1_ := aM (below_step (by repeat (first | (with_reducible first | exact HB.out | apply bA | apply bN | apply bD) | exact HB.out)) hb); clear HO553; clear HB; have HO553 := n0_; have HB := n1_; clear n0_ n1_; (try clear hb); (try clear hb2); (try clear hk); (try clear hi)) | (go_at_call 22; (with_reducible refine (spec_PlayPairMoves.calls kj68 t550 _ _ t551 t556 t557 _ ?side1 ?side2 A130.out).mono ?_); (case side1 => repeat (first | exact (Kd.R_reads' HO553.out).2.2 | (with_reducible refine cA ?_ _) | (with_reducible refine cN ?_ _) | (with_reducible refine cD ?_))); (case side2 => exact (Kd.R_reads' HO553.out).2.1); rintro e w141 ⟨rfl, hb⟩; have n0_ := aM (Kd.R_below (by (with_reducible repeat (first | apply rA | apply rN | apply rD)); exact HO553.out) hb); have n1_ := aM (below_step (by repeat (first | (with_reducible first | exact HB.out | apply bA | apply bN | apply bD) | exact HB.out)) hb); clear HO553; clear HB; have HO553 := n0_; have HB := n1_; clear n0_ n1_; (try clear hb); (try clear hb2); (try clear hk); (try clear hi)) | (go_at_call 23; (with_reducible refine (spec_DrawPairMovesOf.calls kj68 _ _ l1 t558 _ ?side1 ?side2 A131.out).mono ?_); (case side1 => repeat (first | exact (Kd.C_below HR1.out HB.out) | (with_reducible refine cA ?_ _) | (with_reducible refine cN ?_ _) | (with_reducible refine cD ?_))); (case side2 => exact HC1.out); rintro e w142 ⟨rfl, hb⟩; have n0_ := aM (Kd.R_below (by (with_reducible repeat (first | apply rA | apply rN | apply rD)); exact HO553.out) hb); have n1_ := aM (below_step (by repeat (first | (with_reducible first | exact HB.out | apply bA | apply bN | apply bD) | exact HB.out)) hb); clear HO553; clear HB; have HO553 := n0_; have HB := n1_; clear n0_ n1_; (try clear hb); (try clear hb2); (try clear hk); (try clear hi)) | (go_at_call 19; (with_reducible refine (impl_PairMovesOf.calls kj68 t558 t559 t560 _ A132.out).mono ?_); rintro e w143 ⟨v561, rfl, ho0, hb⟩; have n0_ := aM (Kd.R_elder' (by (with_reducible repeat (first | apply rA | apply rN | apply rD)); exact HO553.out) (Kd.R_base ho0) hb); have n1_ := aM (Kd.R_lower (Kd.R_new' ho0 (Kd.R_lt (by (with_reducible repeat (first | apply rA | apply rN | apply rD)); exact HO553.out))) (below_size (by repeat (first | (with_reducible first | exact HB.out | apply bA | apply bN | apply bD) | exact HB.out)))); have n2_ := aM (below_step (by repeat (first | (with_reducible first | exact HB.out | apply bA | apply bN | apply bD) | exact HB.out)) hb); clear HO553; clear HB; have HO553 := n0_; have HO562 := n1_; have HB := n2_; clear n0_ n1_ n2_; (try clear hb); (try clear hb2); (try clear hk); (try clear hi); (try clear ho0)) | (go_at_call 24; (with_reducible refine (spec_PairMovesOf.calls kj68 t558 t563 t564 _ A133.out).mono ?_); rintro e w144 ⟨v565, rfl, ho0, hb⟩; have n0_ := aM (Kd.R_elder' (by (with_reducible repeat (first | apply rA | apply rN | apply rD)); exact HO553.out) (Kd.R_base ho0) hb); have n1_ := aM (Kd.R_elder' (by (with_reducible repeat (first | apply rA | apply rN | apply rD)); exact HO562.out) (Kd.R_base ho0) hb); have n2_ := aM (Kd.R_lower (Kd.R_new' (Kd.R_new' ho0 (Kd.R_lt (by (with_reducible repeat (first | apply rA | apply rN | apply rD)); exact HO553.out))) (Kd.R_lt (by (with_reducible repeat (first | apply rA | apply rN | apply rD)); exact HO562.out))) (below_size (by repeat (first | (with_reducible first | exact HB.out | apply bA | apply bN | apply bD) | exact HB.out)))); have n3_ := aM (below_step (by repeat (first | (with_reducible first | exact HB.out | apply bA | apply bN | apply bD) | exact HB.out)) hb); clear HO553; clear HO562; clear HB; have HO553 := n0_; have HO562 := n1_; have HO566 := n2_; have HB := n3_; clear n0_ n1_ n2_ n3_; (try clear hb); (try clear hb2); (try clear hk); (try clear hi); (try clear ho0)) | (go_at_call 25; (with_reducible refine (spec_DrawMakePairMove.calls kj68 _ _ l1 t567 t568 _ ?side1 ?side2 A134.out).mono ?_); (case side1 => repeat (first | exact (Kd.C_below HR1.out HB.out) | (with_reducible refine cA ?_ _) | (with_reducible refine cN ?_ _) | (with_reducible refine cD ?_))); (case side2 => exact HC1.out); rintro e w145 ⟨rfl, hb⟩; have n0_ := aM (Kd.R_below (by (with_reducible repeat (first | apply rA | apply rN | apply rD)); exact HO553.out) hb); have n1_ := aM (Kd.R_below (by (with_reducible repeat (first | apply rA | apply rN | apply rD)); exact HO562.out) hb); have n2_ := aM (Kd.R_below (by (with_reducible repeat (first | apply rA | apply rN | apply rD)); exact HO566.out) hb); have n3_ := aM (below_step (by repeat (first | (with_reducible first | exact HB.out | apply bA | apply bN | apply bD) | exact HB.out)) hb); clear HO553; clear HO562; clear HO566; clear HB; have HO553 := n0_; have HO562 := n1_; have HO566 := n2_; have HB := n3_; clear n0_ n1_ n2_ n3_; (try clear hb); (try clear hb2); (try clear hk); (try clear hi)) | (go_at_call 20; (with_reducible refine (impl_MakePairMove.calls t567 t568 t569 t570 _ A135.out).mono ?_); rintro e w146 ⟨rfl, hb⟩; have n0_ := aM (Kd.R_below (by (with_reducible repeat (first | apply rA | apply rN | apply rD)); exact HO553.out) hb); have n1_ := aM (Kd.R_below (by (with_reducible repeat (first | apply rA | apply rN | apply rD)); exact HO562.out) hb); have n2_ := aM (Kd.R_below (by (with_reducible repeat (first | apply rA | apply rN | apply rD)); exact HO566.out) hb); have n3_ := aM (below_step (by repeat (first | (with_reducible first | exact HB.out | apply bA | apply bN | apply bD) | exact HB.out)) hb); clear HO553; clear HO562; clear HO566; clear HB; have HO553 := n0_; have HO562 := n1_; have HO566 := n2_; have HB := n3_; clear n0_ n1_ n2_ n3_; (try clear hb); (try clear hb2); (try clear hk); (try clear hi)) | (go_at_call 26; (with_reducible refine (spec_MakePairMove.calls kj68 t567 t568 t571 t572 _ A136.out).mono ?_); rintro e w147 ⟨rfl, hb⟩; have n0_ := aM (Kd.R_below (by (with_reducible repeat (first | apply rA | apply rN | apply rD)); exact HO553.out) hb); have n1_ := aM (Kd.R_below (by (with_reducible repeat (first | apply rA | apply rN | apply rD)); exact HO562.out) hb); have n2_ := aM (Kd.R_below (by (with_reducible repeat (first | apply rA | apply rN | apply rD)); exact HO566.out) hb); have n3_ := aM (below_step (by repeat (first | (with_reducible first | exact HB.out | apply bA | apply bN | apply bD) | exact HB.out)) hb); clear HO553; clear HO562; clear HO566; clear HB; have HO553 := n0_; have HO562 := n1_; have HO566 := n2_; have HB := n3_; clear n0_ n1_ n2_ n3_; (try clear hb); (try clear hb2); (try clear hk); (try clear hi))))
           (try simp only [Act.put, sA, sB, sC])
           go_cut [447] (fun v447 wc => ∃ (kq : Nat) (x447_136 : Bool), v447 = .bool x447_136 ∧ Aside0 (laws_FnPairsMove.j6 kq t558 t559 t560 t567 t568 t569 t570 x447_136 = some r) ∧ Aside0 (kq ≤ kj68) ∧ Aside0 (Kd.R (Kd.int .i64) 3 wc w.heap.size (fun _ => True) v561 t559) ∧ Aside0 (Below w.heap.size w wc))
           case first =>
            as_aux_lemma =>
             have H := HC137.out
             clear HC137
             by_cases c148 : (t555 != t557) = true
             ·rw [if_pos c148] at H
              exact absurd H (by simp)
             ·rw [if_neg c148] at H
              have c148b0 : (t555 != t557) = false := by simpa using c148
              (try (have c148b1 : decide (t555 = t557) = true := by simpa using c148))
              (try (have c148b2 : (t555 == t557) = true := by simpa using c148))
              clear c148
              (first | rw [c148b0] | (simp only [i64_w, i32_w]; rw [c148b0]) | skip)
              by_cases c149 : t554.toList = t556.toList
              ·rw [if_pos c149] at H
               have c149b0 : (t554.toList == t556.toList) = true := beq_iff_eq.mpr c149
               have c149b1 : (t554.toList != t556.toList) = false := bne_eq_false_iff_eq.mpr c149
               clear c149
               by_cases c150 : (t560 != t564) = true
               ·rw [if_pos c150] at H
                exact absurd H (by simp)
               ·rw [if_neg c150] at H
                have c150b0 : (t560 != t564) = false := by simpa using c150
                (try (have c150b1 : decide (t560 = t564) = true := by simpa using c150))
                (try (have c150b2 : (t560 == t564) = true := by simpa using c150))
                clear c150
                replace H := Option.bind_eq_some_iff.mp H
                obtain ⟨t573, A1510, H⟩ := H
                replace H : (if t573 = true then (if (t570 != t572) = true then (none) else (laws_FnPairsMove.j6 kj68 t558 t559 t560 t567 t568 t569 t570 (t569.toList != t571.toList))) else (none)) = some r := H
                have A151 := aM A1510
                clear A1510
                by_cases c152 : t573 = true
                ·subst c152
                 have H1 : (if (t570 != t572) = true then (none) else (laws_FnPairsMove.j6 kj68 t558 t559 t560 t567 t568 t569 t570 (t569.toList != t571.toList))) = some r := by rw [if_pos rfl] at H; exact H
                 clear H; have H := H1; clear H1
                 by_cases c153 : (t570 != t572) = true
                 ·rw [if_pos c153] at H
                  exact absurd H (by simp)
                 ·rw [if_neg c153] at H
                  have c153b0 : (t570 != t572) = false := by simpa using c153
                  (try (have c153b1 : decide (t570 = t572) = true := by simpa using c153))
                  (try (have c153b2 : (t570 == t572) = true := by simpa using c153))
                  clear c153
                  have H' := aM H
                  clear H
                  obtain ⟨Ao156, co156, eo156⟩ := Kd.R_slice HO562.out
                  subst eo156
                  obtain ⟨Ao157, co157, eo157⟩ := Kd.R_slice HO566.out
                  subst eo157
                  go_wp2_with (first | (go_at_call 16; (with_reducible refine (laws_ySame.calls kj68 _ _ t559 _ _ t563 true _ ?side1 ?side2 ?side3 ?side4 A151.out).mono ?_); (case side1 => repeat (first | exact (Kd.R_reads' HO562.out).2.2 | (with_reducible refine cA ?_ _) | (with_reducible refine cN ?_ _) | (with_reducible refine cD ?_))); (case side2 => exact (Kd.R_reads' HO562.out).2.1); (case side3 => repeat (first | exact (Kd.R_reads' HO566.out).2.2 | (with_reducible refine cA ?_ _) | (with_reducible refine cN ?_ _) | (with_reducible refine cD ?_))); (case side4 => exact (Kd.R_reads' HO566.out).2.1); rintro e w' ⟨rfl, ⟨nd, rfl⟩⟩; (try first | exact ⟨rfl, _, World.drewN_drewN _ _ _⟩ | exact ⟨rfl, _, Eq.trans (World.drewN_drewN _ _ _) (congrArg (World.drewN _) (Nat.add_assoc _ _ _))⟩)))
                  repeat (go_quiet (first | (go_at_call 16; (with_reducible refine (laws_ySame.calls kj68 _ _ t559 _ _ t563 true _ ?side1 ?side2 ?side3 ?side4 A151.out).mono ?_); (case side1 => repeat (first | exact (Kd.R_reads' HO562.out).2.2 | (with_reducible refine cA ?_ _) | (with_reducible refine cN ?_ _) | (with_reducible refine cD ?_))); (case side2 => exact (Kd.R_reads' HO562.out).2.1); (case side3 => repeat (first | exact (Kd.R_reads' HO566.out).2.2 | (with_reducible refine cA ?_ _) | (with_reducible refine cN ?_ _) | (with_reducible refine cD ?_))); (case side4 => exact (Kd.R_reads' HO566.out).2.1); rintro e w' ⟨rfl, ⟨nd, rfl⟩⟩; (try first | exact ⟨rfl, _, World.drewN_drewN _ _ _⟩ | exact ⟨rfl, _, Eq.trans (World.drewN_drewN _ _ _) (congrArg (World.drewN _) (Nat.add_assoc _ _ _))⟩))); try go_wp2_with (first | (go_at_call 16; (with_reducible refine (laws_ySame.calls kj68 _ _ t559 _ _ t563 true _ ?side1 ?side2 ?side3 ?side4 A151.out).mono ?_); (case side1 => repeat (first | exact (Kd.R_reads' HO562.out).2.2 | (with_reducible refine cA ?_ _) | (with_reducible refine cN ?_ _) | (with_reducible refine cD ?_))); (case side2 => exact (Kd.R_reads' HO562.out).2.1); (case side3 => repeat (first | exact (Kd.R_reads' HO566.out).2.2 | (with_reducible refine cA ?_ _) | (with_reducible refine cN ?_ _) | (with_reducible refine cD ?_))); (case side4 => exact (Kd.R_reads' HO566.out).2.1); rintro e w' ⟨rfl, ⟨nd, rfl⟩⟩; (try first | exact ⟨rfl, _, World.drewN_drewN _ _ _⟩ | exact ⟨rfl, _, Eq.trans (World.drewN_drewN _ _ _) (congrArg (World.drewN _) (Nat.add_assoc _ _ _))⟩))))
                  go_meet
                  case rel => exact ⟨_, ((t569.toList != t571.toList)), (by first | rfl | (simp; done) | (simp [*]; done)), H', ⟨by have := HJ15.out; have := HJ68.out; first | omega | exact Nat.le_refl _⟩, ⟨by (with_reducible repeat (first | apply rA | apply rN | apply rD)); exact Kd.R_mono HO562.out (fun _ hk => trivial)⟩, ⟨by repeat (first | (with_reducible first | exact HB.out | apply bA | apply bN | apply bD) | exact HB.out)⟩⟩
                ·replace c152 := Bool.eq_false_iff.mpr c152
                 subst c152
                 have H1 : (none) = some r := by rw [if_neg (show ¬ (false = true) by decide)] at H; exact H
                 exact absurd H1 (by simp)
              ·rw [if_neg c149] at H
               exact absurd H (by simp)
           case rest =>
            as_aux_lemma =>
             clear HC137
             try clear c1
             try clear c2
             try clear p2
             try clear c3
             try clear c4
             try clear c5
             try clear p5
             try clear q5
             try clear hx5
             try clear qi5
             try clear c6
             try clear p6
             try clear c7
             try clear c8
             try clear c9
             try clear c10
             try clear c11
             try clear c12
             try clear c14
             try clear c15
             try clear c28
             try clear c28b0
             try clear c28b1
             try clear c28b2
             try clear c30
             try clear c31
             try clear c31b0
             try clear c31b1
             try clear c31b2
             try clear c34
             try clear c34b0
             try clear c34b1
             try clear c35
             try clear c35b0
             try clear c35b1
             try clear c35b2
             try clear c38
             try clear c38b0
             try clear c38b1
             try clear c39
             try clear c39b0
             try clear c39b1
             try clear c39b2
             try clear c42
             try clear c42b0
             try clear c42b1
             try clear c43
             try clear c43b0
             try clear c43b1
             try clear c43b2
             try clear c46
             try clear c46b0
             try clear c46b1
             try clear c47
             try clear c47b0
             try clear c47b1
             try clear c47b2
             try clear c50
             try clear c50b0
             try clear c50b1
             try clear c50b2
             try clear c53
             try clear c53b0
             try clear c53b1
             try clear c53b2
             try clear p53
             try clear q53
             try clear hx53
             try clear p54
             try clear q54
             try clear hx54
             try clear qi54
             try clear p64
             try clear c68
             try clear c70
             try clear c78
             try clear c78b0
             try clear c79
             try clear c79b0
             try clear c80
             try clear c80b0
             try clear c81
             try clear c81b0
             try clear c81b1
             try clear c83
             try clear c83b0
             try clear c84
             try clear c85
             try clear c85b0
             try clear c85b1
             try clear c86
             try clear c86b0
             try clear c86b1
             try clear c87
             try clear c88
             try clear c88b0
             try clear c88b1
             try clear c89
             try clear c89b0
             try clear c90
             try clear c91
             try clear c91b0
             try clear c91b1
             try clear c92
             try clear c92b0
             try clear c93
             try clear c93b0
             try clear c93b1
             try clear c94
             try clear c94b0
             try clear c94b1
             try clear c95
             try clear c96
             try clear c96b0
             try clear c96b1
             try clear c97
             try clear c97b0
             try clear c98
             try clear c99
             try clear c99b0
             try clear c99b1
             try clear c100
             try clear c100b0
             try clear c101
             try clear c101b0
             try clear c101b1
             try clear c102
             try clear c106
             try clear c106b0
             try clear c107
             try clear c107b0
             try clear c108
             try clear c108b0
             try clear c116
             try clear c117
             try clear c118
             try clear c119
             try clear c119b0
             try clear c120
             try clear c121
             try clear c121b0
             try clear c121b1
             try clear c122
             try clear c122b0
             try clear c123
             try clear c124
             try clear c124b0
             try clear c125
             try clear c125b0
             try clear c125b1
             try clear c126
             try clear c126b0
             try clear c126b1
             try clear c127
             try clear c127b0
             try clear c127b1
             try clear c148
             try clear c148b0
             try clear c148b1
             try clear c148b2
             try clear c149
             try clear c149b0
             try clear c149b1
             try clear c150
             try clear c150b0
             try clear c150b1
             try clear c150b2
             try clear c152
             try clear c153
             try clear c153b0
             try clear c153b1
             try clear c153b2
             try clear hx537_0
             try clear hx542_0
             try clear hx543_0
             try clear p2
             try clear p5
             try clear p53
             try clear p537
             try clear p54
             try clear p542
             try clear p543
             try clear p6
             try clear p64
             try clear q5
             try clear q53
             try clear q537
             try clear q54
             try clear q542
             try clear q543
             obtain ⟨kq, x447_136, rfl, HA, HJ136, HO_55, HB⟩ := hcut
             cases kq with
             | zero => exact absurd HA.out (by simp [laws_FnPairsMove.j6])
             | succ kj136 =>
              have H := HA.out
              clear HA
              simp only [laws_FnPairsMove.j6] at H
              by_cases c160 : x447_136 = true
              ·subst c160
               have H1 : (none) = some r := by rw [if_pos rfl] at H; exact H
               exact absurd H1 (by simp)
              ·as_aux_lemma =>
                replace c160 := Bool.eq_false_iff.mpr c160
                subst c160
                have H1 : (if t560 = true then ((impl_MovesOf.f kj136 t558).bind fun bt574 => (if bt574.2 = true then ((laws_yHas.f kj136 t559 (-1)).bind fun t578 => (if 0 < (t558.size : Int) then (if 1 < (t558.size : Int) then (if (t578 != ((bt t558 0) == (bt t558 1))) = true then (none) else ((laws_ySum.f kj136 t559).bind fun t579 => ((laws_ySum.f kj136 bt574.1).bind fun t580 => (laws_FnPairsMove.j7 kj136 t567 t568 t569 t570 (t579 != (wrap64 (t580 - (wrap64 ((t559.length : Int) - (bt574.1.length : Int)))))))))) else (none)) else (none))) else (none))) else (if t570 = true then ((impl_MakePairMove.f t569 t568).bind fun bt583 => (if bt583.2 = true then (some (bt583.1.toList == t567.toList)) else (none))) else (some true))) = some r := by rw [if_neg (show ¬ (false = true) by decide)] at H; exact H
                clear H; have H := H1; clear H1
                by_cases c161 : t560 = true
                ·as_aux_lemma =>
                  subst c161
                  have H1 : ((impl_MovesOf.f kj136 t558).bind fun bt574 => (if bt574.2 = true then ((laws_yHas.f kj136 t559 (-1)).bind fun t578 => (if 0 < (t558.size : Int) then (if 1 < (t558.size : Int) then (if (t578 != ((bt t558 0) == (bt t558 1))) = true then (none) else ((laws_ySum.f kj136 t559).bind fun t579 => ((laws_ySum.f kj136 bt574.1).bind fun t580 => (laws_FnPairsMove.j7 kj136 t567 t568 t569 t570 (t579 != (wrap64 (t580 - (wrap64 ((t559.length : Int) - (bt574.1.length : Int)))))))))) else (none)) else (none))) else (none))) = some r := by rw [if_pos rfl] at H; exact H
                  clear H; have H := H1; clear H1
                  replace H := Option.bind_eq_some_iff.mp H
                  obtain ⟨⟨t574, t575⟩, A1620, H⟩ := H
                  replace H : (if t575 = true then ((laws_yHas.f kj136 t559 (-1)).bind fun t578 => (if 0 < (t558.size : Int) then (if 1 < (t558.size : Int) then (if (t578 != ((bt t558 0) == (bt t558 1))) = true then (none) else ((laws_ySum.f kj136 t559).bind fun t579 => ((laws_ySum.f kj136 t574).bind fun t580 => (laws_FnPairsMove.j7 kj136 t567 t568 t569 t570 (t579 != (wrap64 (t580 - (wrap64 ((t559.length : Int) - (t574.length : Int)))))))))) else (none)) else (none))) else (none)) = some r := H
                  have A162 := aM A1620
                  clear A1620
                  have HC163 := aM H
                  clear H
                  go_upto_region 59 with (first | (go_at_call 27; (with_reducible refine (impl_MovesOf.calls kj136 t558 t574 t575 _ A162.out).mono ?_); rintro e w164 ⟨v576, rfl, ho0, hb⟩; have n0_ := aM (Kd.R_elder' (by (with_reducible repeat (first | apply rA | apply rN | apply rD)); exact HO_55.out) (Kd.R_base ho0) hb); have n1_ := aM (Kd.R_lower (Kd.R_new' ho0 (Kd.R_lt (by (with_reducible repeat (first | apply rA | apply rN | apply rD)); exact HO_55.out))) (below_size (by repeat (first | (with_reducible first | exact HB.out | apply bA | apply bN | apply bD) | exact HB.out)))); have n2_ := aM (below_step (by repeat (first | (with_reducible first | exact HB.out | apply bA | apply bN | apply bD) | exact HB.out)) hb); clear HO_55; clear HB; have HO_55 := n0_; have HO577 := n1_; have HB := n2_; clear n0_ n1_ n2_; (try clear hb); (try clear hb2); (try clear hk); (try clear hi); (try clear ho0)))
                  repeat (go_quiet (first | (go_at_call 27; (with_reducible refine (impl_MovesOf.calls kj136 t558 t574 t575 _ A162.out).mono ?_); rintro e w164 ⟨v576, rfl, ho0, hb⟩; have n0_ := aM (Kd.R_elder' (by (with_reducible repeat (first | apply rA | apply rN | apply rD)); exact HO_55.out) (Kd.R_base ho0) hb); have n1_ := aM (Kd.R_lower (Kd.R_new' ho0 (Kd.R_lt (by (with_reducible repeat (first | apply rA | apply rN | apply rD)); exact HO_55.out))) (below_size (by repeat (first | (with_reducible first | exact HB.out | apply bA | apply bN | apply bD) | exact HB.out)))); have n2_ := aM (below_step (by repeat (first | (with_reducible first | exact HB.out | apply bA | apply bN | apply bD) | exact HB.out)) hb); clear HO_55; clear HB; have HO_55 := n0_; have HO577 := n1_; have HB := n2_; clear n0_ n1_ n2_; (try clear hb); (try clear hb2); (try clear hk); (try clear hi); (try clear ho0))); go_upto_region 59 with (first | (go_at_call 27; (with_reducible refine (impl_MovesOf.calls kj136 t558 t574 t575 _ A162.out).mono ?_); rintro e w164 ⟨v576, rfl, ho0, hb⟩; have n0_ := aM (Kd.R_elder' (by (with_reducible repeat (first | apply rA | apply rN | apply rD)); exact HO_55.out) (Kd.R_base ho0) hb); have n1_ := aM (Kd.R_lower (Kd.R_new' ho0 (Kd.R_lt (by (with_reducible repeat (first | apply rA | apply rN | apply rD)); exact HO_55.out))) (below_size (by repeat (first | (with_reducible first | exact HB.out | apply bA | apply bN | apply bD) | exact HB.out)))); have n2_ := aM (below_step (by repeat (first | (with_reducible first | exact HB.out | apply bA | apply bN | apply bD) | exact HB.out)) hb); clear HO_55; clear HB; have HO_55 := n0_; have HO577 := n1_; have HB := n2_; clear n0_ n1_ n2_; (try clear hb); (try clear hb2); (try clear hk); (try clear hi); (try clear ho0))))
                  (try simp only [Act.put, sA, sB, sC])
                  go_cut [478] (fun v478 wc => ∃ (kq : Nat) (x478_162 : Bool), v478 = .bool x478_162 ∧ Aside0 (laws_FnPairsMove.j7 kq t567 t568 t569 t570 x478_162 = some r) ∧ Aside0 (kq ≤ kj136) ∧ Aside0 (Below w.heap.size w wc))
                  case first =>
                   as_aux_lemma =>
                    have H := HC163.out
                    clear HC163
                    by_cases c165 : t575 = true
                    ·subst c165
                     have H1 : ((laws_yHas.f kj136 t559 (-1)).bind fun t578 => (if 0 < (t558.size : Int) then (if 1 < (t558.size : Int) then (if (t578 != ((bt t558 0) == (bt t558 1))) = true then (none) else ((laws_ySum.f kj136 t559).bind fun t579 => ((laws_ySum.f kj136 t574).bind fun t580 => (laws_FnPairsMove.j7 kj136 t567 t568 t569 t570 (t579 != (wrap64 (t580 - (wrap64 ((t559.length : Int) - (t574.length : Int)))))))))) else (none)) else (none))) = some r := by rw [if_pos rfl] at H; exact H
                     clear H; have H := H1; clear H1
                     replace H := Option.bind_eq_some_iff.mp H
                     obtain ⟨t578, A1660, H⟩ := H
                     replace H : (if 0 < (t558.size : Int) then (if 1 < (t558.size : Int) then (if (t578 != ((bt t558 0) == (bt t558 1))) = true then (none) else ((laws_ySum.f kj136 t559).bind fun t579 => ((laws_ySum.f kj136 t574).bind fun t580 => (laws_FnPairsMove.j7 kj136 t567 t568 t569 t570 (t579 != (wrap64 (t580 - (wrap64 ((t559.length : Int) - (t574.length : Int)))))))))) else (none)) else (none)) = some r := H
                     have A166 := aM A1660
                     clear A1660
                     by_cases c167 : 0 < (t558.size : Int)
                     ·rw [if_pos c167] at H
                      have c167b0 : decide (0 < (t558.size : Int)) = true := decide_eq_true c167
                      have c167b1 : decide (0 < t558.size) = true := decide_eq_true (by omega)
                      clear c167
                      (first | rw [c167b0] | (simp only [i64_w, i32_w]; rw [c167b0]) | skip)
                      by_cases c169 : 1 < (t558.size : Int)
                      ·rw [if_pos c169] at H
                       have c169b0 : decide (1 < (t558.size : Int)) = true := decide_eq_true c169
                       have c169b1 : decide (1 < t558.size) = true := decide_eq_true (by omega)
                       clear c169
                       by_cases c171 : (t578 != ((bt t558 0) == (bt t558 1))) = true
                       ·rw [if_pos c171] at H
                        exact absurd H (by simp)
                       ·rw [if_neg c171] at H
                        have c171b0 : (t578 != ((bt t558 0) == (bt t558 1))) = false := by simpa using c171
                        (try (have c171b1 : decide (t578 = ((bt t558 0) == (bt t558 1))) = true := by simpa using c171))
                        (try (have c171b2 : (t578 == ((bt t558 0) == (bt t558 1))) = true := by simpa using c171))
                        clear c171
                        replace H := Option.bind_eq_some_iff.mp H
                        obtain ⟨t579, A1730, H⟩ := H
                        replace H : ((laws_ySum.f kj136 t574).bind fun t580 => (laws_FnPairsMove.j7 kj136 t567 t568 t569 t570 (t579 != (wrap64 (t580 - (wrap64 ((t559.length : Int) - (t574.length : Int)))))))) = some r := H
                        have A173 := aM A1730
                        clear A1730
                        replace H := Option.bind_eq_some_iff.mp H
                        obtain ⟨t580, A1740, H⟩ := H
                        replace H : (laws_FnPairsMove.j7 kj136 t567 t568 t569 t570 (t579 != (wrap64 (t580 - (wrap64 ((t559.length : Int) - (t574.length : Int))))))) = some r := H
                        have A174 := aM A1740
                        clear A1740
                        have H' := aM H
                        clear H
                        obtain ⟨Ao175, co175, eo175⟩ := Kd.R_slice HO_55.out
                        subst eo175
                        go_wp2_with (first | (go_at_call 28; (with_reducible refine (laws_yHas.calls kj136 _ _ t559 (-1) t578 _ ?side1 ?side2 A166.out).mono ?_); (case side1 => repeat (first | exact (Kd.R_reads' HO_55.out).2.2 | (with_reducible refine cA ?_ _) | (with_reducible refine cN ?_ _) | (with_reducible refine cD ?_))); (case side2 => exact (Kd.R_reads' HO_55.out).2.1); rintro e w' ⟨rfl, ⟨nd, rfl⟩⟩; (try first | exact ⟨rfl, _, World.drewN_drewN _ _ _⟩ | exact ⟨rfl, _, Eq.trans (World.drewN_drewN _ _ _) (congrArg (World.drewN _) (Nat.add_assoc _ _ _))⟩); have p168 : 0 ≤ (0 : Int) := (by omega); have q168 : 0 < t558.size := (by have : (0 : Int) < (t558.size : Int) := of_decide_eq_true (by first | (with_reducible assumption) | assumption); omega); have hx168 : ∀ h : 0 < t558.size, ((t558[0]'h).toNat : Int) = bt t558 0 := bt_at t558 0; clear p168; have qi168 : (0 < (t558.size : Int)) = True := eq_true (of_decide_eq_true (by first | (with_reducible assumption) | assumption)); replace q168 := eq_true q168; have p170 : 0 ≤ (1 : Int) := (by omega); have q170 : 1 < t558.size := (by have : (1 : Int) < (t558.size : Int) := of_decide_eq_true (by first | (with_reducible assumption) | assumption); omega); have hx170 : ∀ h : 1 < t558.size, ((t558[1]'h).toNat : Int) = bt t558 1 := bt_at t558 1; clear p170; have qi170 : (1 < (t558.size : Int)) = True := eq_true (of_decide_eq_true (by first | (with_reducible assumption) | assumption)); replace q170 := eq_true q170) | (go_at_call 29; (with_reducible refine (laws_ySum.calls kj136 _ _ t559 t579 _ ?side1 ?side2 A173.out).mono ?_); (case side1 => repeat (first | exact (Kd.R_reads' HO_55.out).2.2 | (with_reducible refine cA ?_ _) | (with_reducible refine cN ?_ _) | (with_reducible refine cD ?_))); (case side2 => exact (Kd.R_reads' HO_55.out).2.1); rintro e w' ⟨rfl, ⟨nd, rfl⟩⟩; (try first | exact ⟨rfl, _, World.drewN_drewN _ _ _⟩ | exact ⟨rfl, _, Eq.trans (World.drewN_drewN _ _ _) (congrArg (World.drewN _) (Nat.add_assoc _ _ _))⟩); obtain ⟨Ao176, co176, eo176⟩ := Kd.R_slice HO577.out; subst eo176) | (go_at_call 29; (with_reducible refine (laws_ySum.calls kj136 _ _ t574 t580 _ ?side1 ?side2 A174.out).mono ?_); (case side1 => repeat (first | exact (Kd.R_reads' HO577.out).2.2 | (with_reducible refine cA ?_ _) | (with_reducible refine cN ?_ _) | (with_reducible refine cD ?_))); (case side2 => exact (Kd.R_reads' HO577.out).2.1); rintro e w' ⟨rfl, ⟨nd, rfl⟩⟩; (try first | exact ⟨rfl, _, World.drewN_drewN _ _ _⟩ | exact ⟨rfl, _, Eq.trans (World.drewN_drewN _ _ _) (congrArg (World.drewN _) (Nat.add_assoc _ _ _))⟩)))
                        repeat (go_quiet (first | (go_at_call 28; (with_reducible refine (laws_yHas.calls kj136 _ _ t559 (-1) t578 _ ?side1 ?side2 A166.out).mono ?_); (case side1 => repeat (first | exact (Kd.R_reads' HO_55.out).2.2 | (with_reducible refine cA ?_ _) | (with_reducible refine cN ?_ _) | (with_reducible refine cD ?_))); (case side2 => exact (Kd.R_reads' HO_55.out).2.1); rintro e w' ⟨rfl, ⟨nd, rfl⟩⟩; (try first | exact ⟨rfl, _, World.drewN_drewN _ _ _⟩ | exact ⟨rfl, _, Eq.trans (World.drewN_drewN _ _ _) (congrArg (World.drewN _) (Nat.add_assoc _ _ _))⟩); have p168 : 0 ≤ (0 : Int) := (by omega); have q168 : 0 < t558.size := (by have : (0 : Int) < (t558.size : Int) := of_decide_eq_true (by first | (with_reducible assumption) | assumption); omega); have hx168 : ∀ h : 0 < t558.size, ((t558[0]'h).toNat : Int) = bt t558 0 := bt_at t558 0; clear p168; have qi168 : (0 < (t558.size : Int)) = True := eq_true (of_decide_eq_true (by first | (with_reducible assumption) | assumption)); replace q168 := eq_true q168; have p170 : 0 ≤ (1 : Int) := (by omega); have q170 : 1 < t558.size := (by have : (1 : Int) < (t558.size : Int) := of_decide_eq_true (by first | (with_reducible assumption) | assumption); omega); have hx170 : ∀ h : 1 < t558.size, ((t558[1]'h).toNat : Int) = bt t558 1 := bt_at t558 1; clear p170; have qi170 : (1 < (t558.size : Int)) = True := eq_true (of_decide_eq_true (by first | (with_reducible assumption) | assumption)); replace q170 := eq_true q170) | (go_at_call 29; (with_reducible refine (laws_ySum.calls kj136 _ _ t559 t579 _ ?side1 ?side2 A173.out).mono ?_); (case side1 => repeat (first | exact (Kd.R_reads' HO_55.out).2.2 | (with_reducible refine cA ?_ _) | (with_reducible refine cN ?_ _) | (with_reducible refine cD ?_))); (case side2 => exact (Kd.R_reads' HO_55.out).2.1); rintro e w' ⟨rfl, ⟨nd, rfl⟩⟩; (try first | exact ⟨rfl, _, World.drewN_drewN _ _ _⟩ | exact ⟨rfl, _, Eq.trans (World.drewN_drewN _ _ _) (congrArg (World.drewN _) (Nat.add_assoc _ _ _))⟩); obtain ⟨Ao176, co176, eo176⟩ := Kd.R_slice HO577.out; subst eo176) | (go_at_call 29; (with_reducible refine (laws_ySum.calls kj136 _ _ t574 t580 _ ?side1 ?side2 A174.out).mono ?_); (case side1 => repeat (first | exact (Kd.R_reads' HO577.out).2.2 | (with_reducible refine cA ?_ _) | (with_reducible refine cN ?_ _) | (with_reducible refine cD ?_))); (case side2 => exact (Kd.R_reads' HO577.out).2.1); rintro e w' ⟨rfl, ⟨nd, rfl⟩⟩; (try first | exact ⟨rfl, _, World.drewN_drewN _ _ _⟩ | exact ⟨rfl, _, Eq.trans (World.drewN_drewN _ _ _) (congrArg (World.drewN _) (Nat.add_assoc _ _ _))⟩))); try go_wp2_with (first | (go_at_call 28; (with_reducible refine (laws_yHas.calls kj136 _ _ t559 (-1) t578 _ ?side1 ?side2 A166.out).mono ?_); (case side1 => repeat (first | exact (Kd.R_reads' HO_55.out).2.2 | (with_reducible refine cA ?_ _) | (with_reducible refine cN ?_ _) | (with_reducible refine cD ?_))); (case side2 => exact (Kd.R_reads' HO_55.out).2.1); rintro e w' ⟨rfl, ⟨nd, rfl⟩⟩; (try first | exact ⟨rfl, _, World.drewN_drewN _ _ _⟩ | exact ⟨rfl, _, Eq.trans (World.drewN_drewN _ _ _) (congrArg (World.drewN _) (Nat.add_assoc _ _ _))⟩); have p168 : 0 ≤ (0 : Int) := (by omega); have q168 : 0 < t558.size := (by have : (0 : Int) < (t558.size : Int) := of_decide_eq_true (by first | (with_reducible assumption) | assumption); omega); have hx168 : ∀ h : 0 < t558.size, ((t558[0]'h).toNat : Int) = bt t558 0 := bt_at t558 0; clear p168; have qi168 : (0 < (t558.size : Int)) = True := eq_true (of_decide_eq_true (by first | (with_reducible assumption) | assumption)); replace q168 := eq_true q168; have p170 : 0 ≤ (1 : Int) := (by omega); have q170 : 1 < t558.size := (by have : (1 : Int) < (t558.size : Int) := of_decide_eq_true (by first | (with_reducible assumption) | assumption); omega); have hx170 : ∀ h : 1 < t558.size, ((t558[1]'h).toNat : Int) = bt t558 1 := bt_at t558 1; clear p170; have qi170 : (1 < (t558.size : Int)) = True := eq_true (of_decide_eq_true (by first | (with_reducible assumption) | assumption)); replace q170 := eq_true q170) | (go_at_call 29; (with_reducible refine (laws_ySum.calls kj136 _ _ t559 t579 _ ?side1 ?side2 A173.out).mono ?_); (case side1 => repeat (first | exact (Kd.R_reads' HO_55.out).2.2 | (with_reducible refine cA ?_ _) | (with_reducible refine cN ?_ _) | (with_reducible refine cD ?_))); (case side2 => exact (Kd.R_reads' HO_55.out).2.1); rintro e w' ⟨rfl, ⟨nd, rfl⟩⟩; (try first | exact ⟨rfl, _, World.drewN_drewN _ _ _⟩ | exact ⟨rfl, _, Eq.trans (World.drewN_drewN _ _ _) (congrArg (World.drewN _) (Nat.add_assoc _ _ _))⟩); obtain ⟨Ao176, co176, eo176⟩ := Kd.R_slice HO577.out; subst eo176) | (go_at_call 29; (with_reducible refine (laws_ySum.calls kj136 _ _ t574 t580 _ ?side1 ?side2 A174.out).mono ?_); (case side1 => repeat (first | exact (Kd.R_reads' HO577.out).2.2 | (with_reducible refine cA ?_ _) | (with_reducible refine cN ?_ _) | (with_reducible refine cD ?_))); (case side2 => exact (Kd.R_reads' HO577.out).2.1); rintro e w' ⟨rfl, ⟨nd, rfl⟩⟩; (try first | exact ⟨rfl, _, World.drewN_drewN _ _ _⟩ | exact ⟨rfl, _, Eq.trans (World.drewN_drewN _ _ _) (congrArg (World.drewN _) (Nat.add_assoc _ _ _))⟩))))
                        go_meet
                        case rel => exact ⟨_, ((t579 != (wrap64 (t580 - (wrap64 ((t559.length : Int) - (t574.length : Int))))))), (by simp only [i64_w]), H', ⟨by have := HJ15.out; have := HJ68.out; have := HJ136.out; first | omega | exact Nat.le_refl _⟩, ⟨by repeat (first | (with_reducible first | exact HB.out | apply bA | apply bN | apply bD) | exact HB.out)⟩⟩
                      ·rw [if_neg c169] at H
                       exact absurd H (by simp)
                     ·rw [if_neg c167] at H
                      exact absurd H (by simp)
                    ·replace c165 := Bool.eq_false_iff.mpr c165
                     subst c165
                     have H1 : (none) = some r := by rw [if_neg (show ¬ (false = true) by decide)] at H; exact H
                     exact absurd H1 (by simp)
                  case rest =>
                   as_aux_lemma =>
                    clear HC163
                    try clear c1
                    try clear p1
                    try clear q1
                    try clear hx1
                    try clear qi1
                    try clear c2
                    try clear p2
                    try clear c3
                    try clear c4
                    try clear c5
                    try clear p5
                    try clear q5
                    try clear hx5
                    try clear qi5
                    try clear c6
                    try clear p6
                    try clear c7
                    try clear c8
                    try clear c9
                    try clear c10
                    try clear c11
                    try clear c12
                    try clear c14
                    try clear c15
                    try clear c16
                    try clear p16
                    try clear q16
                    try clear hx16
                    try clear qi16
                    try clear c17
                    try clear p17
                    try clear q17
                    try clear hx17
                    try clear qi17
                    try clear c28
                    try clear c28b0
                    try clear c28b1
                    try clear c28b2
                    try clear c30
                    try clear c31
                    try clear c31b0
                    try clear c31b1
                    try clear c31b2
                    try clear c34
                    try clear c34b0
                    try clear c34b1
                    try clear c35
                    try clear c35b0
                    try clear c35b1
                    try clear c35b2
                    try clear c38
                    try clear c38b0
                    try clear c38b1
                    try clear c39
                    try clear c39b0
                    try clear c39b1
                    try clear c39b2
                    try clear c42
                    try clear c42b0
                    try clear c42b1
                    try clear c43
                    try clear c43b0
                    try clear c43b1
                    try clear c43b2
                    try clear c46
                    try clear c46b0
                    try clear c46b1
                    try clear c47
                    try clear c47b0
                    try clear c47b1
                    try clear c47b2
                    try clear c50
                    try clear c50b0
                    try clear c50b1
                    try clear c50b2
                    try clear c53
                    try clear c53b0
                    try clear c53b1
                    try clear c53b2
                    try clear p53
                    try clear q53
                    try clear hx53
                    try clear p54
                    try clear q54
                    try clear hx54
                    try clear qi54
                    try clear p64
                    try clear c68
                    try clear c70
                    try clear c78
                    try clear c78b0
                    try clear c79
                    try clear c79b0
                    try clear c80
                    try clear c80b0
                    try clear c81
                    try clear c81b0
                    try clear c81b1
                    try clear c83
                    try clear c83b0
                    try clear c84
                    try clear c85
                    try clear c85b0
                    try clear c85b1
                    try clear c86
                    try clear c86b0
                    try clear c86b1
                    try clear c87
                    try clear c88
                    try clear c88b0
                    try clear c88b1
                    try clear c89
                    try clear c89b0
                    try clear c90
                    try clear c91
                    try clear c91b0
                    try clear c91b1
                    try clear c92
                    try clear c92b0
                    try clear c93
                    try clear c93b0
                    try clear c93b1
                    try clear c94
                    try clear c94b0
                    try clear c94b1
                    try clear c95
                    try clear c96
                    try clear c96b0
                    try clear c96b1
                    try clear c97
                    try clear c97b0
                    try clear c98
                    try clear c99
                    try clear c99b0
                    try clear c99b1
                    try clear c100
                    try clear c100b0
                    try clear c101
                    try clear c101b0
                    try clear c101b1
                    try clear c102
                    try clear c106
                    try clear c106b0
                    try clear c107
                    try clear c107b0
                    try clear c108
                    try clear c108b0
                    try clear c116
                    try clear c117
                    try clear c118
                    try clear c119
                    try clear c119b0
                    try clear c120
                    try clear c121
                    try clear c121b0
                    try clear c121b1
                    try clear c122
                    try clear c122b0
                    try clear c123
                    try clear c124
                    try clear c124b0
                    try clear c125
                    try clear c125b0
                    try clear c125b1
                    try clear c126
                    try clear c126b0
                    try clear c126b1
                    try clear c127
                    try clear c127b0
                    try clear c127b1
                    try clear c148
                    try clear c148b0
                    try clear c148b1
                    try clear c148b2
                    try clear c149
                    try clear c149b0
                    try clear c149b1
                    try clear c150
                    try clear c150b0
                    try clear c150b1
                    try clear c150b2
                    try clear c152
                    try clear c153
                    try clear c153b0
                    try clear c153b1
                    try clear c153b2
                    try clear c160
                    try clear c161
                    try clear c165
                    try clear c167
                    try clear c167b0
                    try clear c167b1
                    try clear p168
                    try clear q168
                    try clear hx168
                    try clear qi168
                    try clear c169
                    try clear c169b0
                    try clear c169b1
                    try clear p170
                    try clear q170
                    try clear hx170
                    try clear qi170
                    try clear c171
                    try clear c171b0
                    try clear c171b1
                    try clear c171b2
                    try clear hx537_0
                    try clear hx542_0
                    try clear hx543_0
                    try clear p168
                    try clear p170
                    try clear p2
                    try clear p5
                    try clear p53
                    try clear p537
                    try clear p54
                    try clear p542
                    try clear p543
                    try clear p6
                    try clear p64
                    try clear q168
                    try clear q170
                    try clear q5
                    try clear q53
                    try clear q537
                    try clear q54
                    try clear q542
                    try clear q543
                    obtain ⟨kq, x478_162, rfl, HA, HJ162, HB⟩ := hcut
                    cases kq with
                    | zero => exact absurd HA.out (by simp [laws_FnPairsMove.j7])
                    | succ kj162 =>
                     have H := HA.out
                     clear HA
                     simp only [laws_FnPairsMove.j7] at H
                     by_cases c177 : x478_162 = true
                     ·subst c177
                      have H1 : (none) = some r := by rw [if_pos rfl] at H; exact H
                      exact absurd H1 (by simp)
                     ·replace c177 := Bool.eq_false_iff.mpr c177
                      subst c177
                      have H1 : (if t570 = true then ((impl_MakePairMove.f t569 t568).bind fun bt581 => (if bt581.2 = true then (some (bt581.1.toList == t567.toList)) else (none))) else (some true)) = some r := by rw [if_neg (show ¬ (false = true) by decide)] at H; exact H
                      clear H; have H := H1; clear H1
                      by_cases c178 : t570 = true
                      ·subst c178
                       have H1 : ((impl_MakePairMove.f t569 t568).bind fun bt581 => (if bt581.2 = true then (some (bt581.1.toList == t567.toList)) else (none))) = some r := by rw [if_pos rfl] at H; exact H
                       clear H; have H := H1; clear H1
                       replace H := Option.bind_eq_some_iff.mp H
                       obtain ⟨⟨t581, t582⟩, A1790, H⟩ := H
                       replace H : (if t582 = true then (some (t581.toList == t567.toList)) else (none)) = some r := H
                       have A179 := aM A1790
                       clear A1790
                       by_cases c180 : t582 = true
                       ·subst c180
                        have H1 : (some (t581.toList == t567.toList)) = some r := by rw [if_pos rfl] at H; exact H
                        clear H; have H := H1; clear H1
                        obtain rfl := Option.some.inj H
                        go_wp2_with (first | (go_at_call 20; (with_reducible refine (impl_MakePairMove.calls t569 t568 t581 true _ A179.out).mono ?_); rintro e w181 ⟨rfl, hb⟩; have n0_ := aM (below_step (by repeat (first | (with_reducible first | exact HB.out | apply bA | apply bN | apply bD) | exact HB.out)) hb); clear HB; have HB := n0_; clear n0_; (try clear hb); (try clear hb2); (try clear hk); (try clear hi)))
                        repeat (go_quiet (first | (go_at_call 20; (with_reducible refine (impl_MakePairMove.calls t569 t568 t581 true _ A179.out).mono ?_); rintro e w181 ⟨rfl, hb⟩; have n0_ := aM (below_step (by repeat (first | (with_reducible first | exact HB.out | apply bA | apply bN | apply bD) | exact HB.out)) hb); clear HB; have HB := n0_; clear n0_; (try clear hb); (try clear hb2); (try clear hk); (try clear hi))); try go_wp2_with (first | (go_at_call 20; (with_reducible refine (impl_MakePairMove.calls t569 t568 t581 true _ A179.out).mono ?_); rintro e w181 ⟨rfl, hb⟩; have n0_ := aM (below_step (by repeat (first | (with_reducible first | exact HB.out | apply bA | apply bN | apply bD) | exact HB.out)) hb); clear HB; have HB := n0_; clear n0_; (try clear hb); (try clear hb2); (try clear hk); (try clear hi))))
                        go_ret
                        exact ⟨by first | rfl | (simp [errW_none, errW_some] <;> rfl) | (simp [*, errW_none, errW_some] <;> rfl), by repeat (first | (with_reducible first | exact HB.out | apply bA | apply bN | apply bD) | exact HB.out)⟩
                       ·replace c180 := Bool.eq_false_iff.mpr c180
                        subst c180
                        have H1 : (none) = some r := by rw [if_neg (show ¬ (false = true) by decide)] at H; exact H
                        exact absurd H1 (by simp)
                      ·replace c178 := Bool.eq_false_iff.mpr c178
                       subst c178
                       have H1 : (some true) = some r := by rw [if_neg (show ¬ (false = true) by decide)] at H; exact H
                       clear H; have H := H1; clear H1
                       obtain rfl := Option.some.inj H
                       go_wp2
                       repeat (go_quiet (fail); try go_wp2)
                       go_ret
                       exact ⟨by first | rfl | (simp [errW_none, errW_some] <;> rfl) | (simp [*, errW_none, errW_some] <;> rfl), by repeat (first | (with_reducible first | exact HB.out | apply bA | apply bN | apply bD) | exact HB.out)⟩
                ·replace c161 := Bool.eq_false_iff.mpr c161
                 subst c161
                 have H1 : (if t570 = true then ((impl_MakePairMove.f t569 t568).bind fun bt583 => (if bt583.2 = true then (some (bt583.1.toList == t567.toList)) else (none))) else (some true)) = some r := by rw [if_neg (show ¬ (false = true) by decide)] at H; exact H
                 clear H; have H := H1; clear H1
                 by_cases c183 : t570 = true
                 ·subst c183
                  have H1 : ((impl_MakePairMove.f t569 t568).bind fun bt583 => (if bt583.2 = true then (some (bt583.1.toList == t567.toList)) else (none))) = some r := by rw [if_pos rfl] at H; exact H
                  clear H; have H := H1; clear H1
                  replace H := Option.bind_eq_some_iff.mp H
                  obtain ⟨⟨t583, t584⟩, A1840, H⟩ := H
                  replace H : (if t584 = true then (some (t583.toList == t567.toList)) else (none)) = some r := H
                  have A184 := aM A1840
                  clear A1840
                  by_cases c185 : t584 = true
                  ·subst c185
                   have H1 : (some (t583.toList == t567.toList)) = some r := by rw [if_pos rfl] at H; exact H
                   clear H; have H := H1; clear H1
                   obtain rfl := Option.some.inj H
                   go_wp2_with (first | (go_at_call 20; (with_reducible refine (impl_MakePairMove.calls t569 t568 t583 true _ A184.out).mono ?_); rintro e w186 ⟨rfl, hb⟩; have n0_ := aM (Kd.R_below (by (with_reducible repeat (first | apply rA | apply rN | apply rD)); exact HO_55.out) hb); have n1_ := aM (below_step (by repeat (first | (with_reducible first | exact HB.out | apply bA | apply bN | apply bD) | exact HB.out)) hb); clear HO_55; clear HB; have HO_55 := n0_; have HB := n1_; clear n0_ n1_; (try clear hb); (try clear hb2); (try clear hk); (try clear hi)))
                   repeat (go_quiet (first | (go_at_call 20; (with_reducible refine (impl_MakePairMove.calls t569 t568 t583 true _ A184.out).mono ?_); rintro e w186 ⟨rfl, hb⟩; have n0_ := aM (Kd.R_below (by (with_reducible repeat (first | apply rA | apply rN | apply rD)); exact HO_55.out) hb); have n1_ := aM (below_step (by repeat (first | (with_reducible first | exact HB.out | apply bA | apply bN | apply bD) | exact HB.out)) hb); clear HO_55; clear HB; have HO_55 := n0_; have HB := n1_; clear n0_ n1_; (try clear hb); (try clear hb2); (try clear hk); (try clear hi))); try go_wp2_with (first | (go_at_call 20; (with_reducible refine (impl_MakePairMove.calls t569 t568 t583 true _ A184.out).mono ?_); rintro e w186 ⟨rfl, hb⟩; have n0_ := aM (Kd.R_below (by (with_reducible repeat (first | apply rA | apply rN | apply rD)); exact HO_55.out) hb); have n1_ := aM (below_step (by repeat (first | (with_reducible first | exact HB.out | apply bA | apply bN | apply bD) | exact HB.out)) hb); clear HO_55; clear HB; have HO_55 := n0_; have HB := n1_; clear n0_ n1_; (try clear hb); (try clear hb2); (try clear hk); (try clear hi))))
                   go_ret
                   exact ⟨by first | rfl | (simp [errW_none, errW_some] <;> rfl) | (simp [*, errW_none, errW_some] <;> rfl), by repeat (first | (with_reducible first | exact HB.out | apply bA | apply bN | apply bD) | exact HB.out)⟩
                  ·replace c185 := Bool.eq_false_iff.mpr c185
                   subst c185
                   have H1 : (none) = some r := by rw [if_neg (show ¬ (false = true) by decide)] at H; exact H
                   exact absurd H1 (by simp)
                 ·replace c183 := Bool.eq_false_iff.mpr c183
                  subst c183
                  have H1 : (some true) = some r := by rw [if_neg (show ¬ (false = true) by decide)] at H; exact H
                  clear H; have H := H1; clear H1
                  obtain rfl := Option.some.inj H
                  go_wp2
                  repeat (go_quiet (fail); try go_wp2)
                  go_ret
                  exact ⟨by first | rfl | (simp [errW_none, errW_some] <;> rfl) | (simp [*, errW_none, errW_some] <;> rfl), by repeat (first | (with_reducible first | exact HB.out | apply bA | apply bN | apply bD) | exact HB.out)⟩

/-- THE ONE PURE STATEMENT of laws_FnPairsMove: yours. -/
def laws_FnPairsMove.Pure : Prop := ∀ (l0 : List Int) (l1 : List Int), l0.length ≤ maxLen → l0.length * 1 ≤ 140737488351232 → (∀ x ∈ l0, (Lit.int .u8 x).wf = true) → l1.length ≤ maxLen → l1.length * 1 ≤ 140737488351232 → (∀ x ∈ l1, (Lit.int .u8 x).wf = true) → ∃ k, laws_FnPairsMove.f k l0 l1 = some true
theorem laws_FnPairsMove.walk (P : laws_FnPairsMove.Pure) (a0 : Option Addr) (len0 cap0 : Nat) (z0 : List Int) (a1 : Option Addr) (len1 cap1 : Nat) (z1 : List Int) (w : World) (w0 : (a0 = none ∧ len0 = 0 ∧ cap0 = 0 ∧ z0 = []) ∨ ∃ x, a0 = some x ∧ len0 ≤ cap0 ∧ cap0 ≤ maxLen ∧ z0.length = cap0 ∧ (∀ i, i < z0.length → w.cell? (x.add i) = some (.int .u8 (z0.getD i 0))) ∧ ∀ n ∈ z0, (Lit.int .u8 n).wf = true) (y0 : len0 * 1 ≤ 140737488351232) (w1 : (a1 = none ∧ len1 = 0 ∧ cap1 = 0 ∧ z1 = []) ∨ ∃ x, a1 = some x ∧ len1 ≤ cap1 ∧ cap1 ≤ maxLen ∧ z1.length = cap1 ∧ (∀ i, i < z1.length → w.cell? (x.add i) = some (.int .u8 (z1.getD i 0))) ∧ ∀ n ∈ z1, (Lit.int .u8 n).wf = true) (y1 : len1 * 1 ≤ 140737488351232) :
  Calls Tryd.prog 3 #[.slice a0 len0 cap0, .slice a1 len1 cap1] w fun e w' => e = .returned (.bool true) ∧ Below w.heap.size w w' := by
 obtain ⟨l0, rfl, hr0, hm0, hw0, hc0⟩ := ReadsInt.ofRowC w0
 obtain ⟨l1, rfl, hr1, hm1, hw1, hc1⟩ := ReadsInt.ofRowC w1
 obtain ⟨k, h⟩ := P l0 l1 hm0 y0 hw0 hm1 y1 hw1
 refine (laws_FnPairsMove.calls k _ _ l0 _ _ l1 true w (Kd.C_of_reads (d := (0 : Int)) (h1 := fun _ => rfl) hr0) hc0 (Kd.C_of_reads (d := (0 : Int)) (h1 := fun _ => rfl) hr1) hc1 h).mono ?_
 rintro e w' ⟨rfl, hd⟩
 exact ⟨rfl, hd⟩

end Go.Proofs.YtppbohghongfmaaDoor.PN
