-- written by a program of this session's (wip/tools), over the kit's print
import Derived.Test.YtgfjgpnaalblbaaGreatDoorPNx0
import Derived.Test.YtgfjgpnaalblbaaGreatDoorPNx1
import Derived.Test.YtgfjgpnaalblbaaGreatDoorPNx2
import Derived.Test.YtgfjgpnaalblbaaGreatDoorPNx4
import Derived.Test.YtgfjgpnaalblbaaGreatDoorPNx7
import Derived.Test.YtgfjgpnaalblbaaGreatDoorPNx8
import Derived.Test.YtgfjgpnaalblbaaGreatDoorPNx9
import Derived.Test.YtgfjgpnaalblbaaGreatDoorPNx10
-- squeezed
-- squeezed twice
namespace Go.Proofs.YtgfjgpnaalblbaaGreatDoor.PN
open Go.RowKit Go.Proofs.YtgfjgpnaalblbaaGreatDoorW.PrintWords Go.Proofs.YtgfjgpnaalblbaaGreatDoorW.PrintLast Go.Proofs.YtgfjgpnaalblbaaGreatDoorW.PrintMore
attribute [local go_sem] max2_int min2_int max_two min_two max_three min_three max_four min_four   -- for this text's walks alone
set_option linter.unusedVariables false
set_option linter.unusedSimpArgs false

/-! ### laws_FnPairsNear: function 3 -/
mutual
def laws_FnPairsNear.j0 : Nat → List Int → ByteArray → Int → List ByteArray → Bool → List ByteArray → Int → Bool → Bool → Option (Bool)
 | 0, _, _, _, _, _, _, _, _, _ => none
 | k + 1, x1, x5, x6, x7, x8, x11, x12, x13, x111 => if x111 = true then (some false) else (if x8 = true then (laws_FnPairsNear.l0 k x1 x5 x6 x7 x11 x12 x13 (-1) x7 (x7.length : Int) 0) else (laws_FnPairsNear.j3 k x1 x5 x11 x12 x13))
def laws_FnPairsNear.j3 : Nat → List Int → ByteArray → List ByteArray → Int → Bool → Option (Bool)
 | 0, _, _, _, _, _ => none
 | k + 1, x1, x5, x11, x12, x13 => if x13 = true then (laws_FnPairsNear.l1 k x1 x5 x11 x12 x11 (x11.length : Int) 0) else (laws_FnPairsNear.j5 k x1)
def laws_FnPairsNear.j5 : Nat → List Int → Option (Bool)
 | 0, _ => none
 | k + 1, x1 => (spec_DrawCountByPairs.f x1).bind fun bt476 => ((impl_CountByPairs.f k bt476.1 bt476.2).bind fun bt478 => ((spec_CountByPairs.f k bt476.1 bt476.2).bind fun bt480 => ((spec_DrawMostSaved.f x1).bind fun t482 => ((impl_MostSaved.f k t482).bind fun bt483 => ((spec_MostSaved.f k t482).bind fun bt485 => ((impl_PairMovesToClear.f k t482).bind fun bt487 => ((spec_PairMovesToClear.f k t482).bind fun bt489 => (if (bt478.2 != bt480.2) = true then (laws_FnPairsNear.j6 k bt476.2 bt478.1 bt478.2 t482 bt483.1 bt483.2 bt487.1 true) else (if bt478.1 = bt480.1 then (if (bt483.2 != bt485.2) = true then (laws_FnPairsNear.j6 k bt476.2 bt478.1 bt478.2 t482 bt483.1 bt483.2 bt487.1 true) else (if bt483.1 = bt485.1 then (if (bt487.2 != bt489.2) = true then (laws_FnPairsNear.j6 k bt476.2 bt478.1 bt478.2 t482 bt483.1 bt483.2 bt487.1 true) else (if bt487.1 = bt489.1 then (laws_FnPairsNear.j6 k bt476.2 bt478.1 bt478.2 t482 bt483.1 bt483.2 bt487.1 (bt487.2 != bt483.2)) else (laws_FnPairsNear.j6 k bt476.2 bt478.1 bt478.2 t482 bt483.1 bt483.2 bt487.1 true))) else (laws_FnPairsNear.j6 k bt476.2 bt478.1 bt478.2 t482 bt483.1 bt483.2 bt487.1 true))) else (laws_FnPairsNear.j6 k bt476.2 bt478.1 bt478.2 t482 bt483.1 bt483.2 bt487.1 true))))))))))
def laws_FnPairsNear.j6 : Nat → Int → Int → Bool → Int → Int → Bool → Int → Bool → Option (Bool)
 | 0, _, _, _, _, _, _, _, _ => none
 | k + 1, x31, x32, x33, x36, x37, x38, x41, x295 => if x295 = true then (some false) else (if x33 = true then (if x32 < 0 then (laws_FnPairsNear.j7 k x36 x37 x38 x41 true) else (if x31 = 0 then (laws_FnPairsNear.j7 k x36 x37 x38 x41 (x32 != 1)) else (laws_FnPairsNear.j7 k x36 x37 x38 x41 false))) else (laws_FnPairsNear.j7 k x36 x37 x38 x41 false))
def laws_FnPairsNear.j7 : Nat → Int → Int → Bool → Int → Bool → Option (Bool)
 | 0, _, _, _, _, _ => none
 | k + 1, x36, x37, x38, x41, x308 => if x308 = true then (some false) else (if x38 = true then ((impl_MovesToClear.f k x36).bind fun bt491 => (if bt491.2 = true then (if x37 < (wrap64 (bt491.1 - x41)) then (laws_FnPairsNear.j8 k x36 x41 true) else (if x41 > bt491.1 then (laws_FnPairsNear.j8 k x36 x41 true) else (if x41 < 1 then (laws_FnPairsNear.j8 k x36 x41 true) else (laws_FnPairsNear.j8 k x36 x41 (decide (x37 < 1)))))) else (laws_FnPairsNear.j8 k x36 x41 true))) else (some true))
def laws_FnPairsNear.j8 : Nat → Int → Int → Bool → Option (Bool)
 | 0, _, _, _ => none
 | k + 1, x36, x41, x336 => if x336 = true then (some false) else (if 0 ≤ (wrap64 (x36 - 1)) then (if (Int.tmod x36 2) = 0 then (some (x41 == (wrap64 ((shl .i64 1 (wrap64 (x36 - 1))) - 1)))) else (some (x41 == (shl .i64 1 (wrap64 (x36 - 1)))))) else (none))
def laws_FnPairsNear.l1 : Nat → List Int → ByteArray → List ByteArray → Int → List ByteArray → Int → Int → Option (Bool)
 | 0, _, _, _, _, _, _, _ => none
 | k + 1, x1, x5, x11, x12, x192, x193, x194 => if x194 < x193 then (if 0 ≤ x194 then (if x194 < (x192.length : Int) then ((impl_FewestPairMoves.f k x5 (rdOf ByteArray.empty x192 x194)).bind fun bt474 => (if x194 < 4 then (if bt474.2 = true then (if bt474.1 = x12 then (laws_FnPairsNear.l1 k x1 x5 x11 x12 x192 x193 (wrap64 (x194 + 1))) else (some false)) else (some false)) else (laws_FnPairsNear.l1 k x1 x5 x11 x12 x192 x193 (wrap64 (x194 + 1))))) else (none)) else (none)) else (if (x11.length : Int) < 1 then (some false) else (if x12 < 1 then (some false) else (laws_FnPairsNear.j5 k x1)))
def laws_FnPairsNear.l0 : Nat → List Int → ByteArray → Int → List ByteArray → List ByteArray → Int → Bool → Int → List ByteArray → Int → Int → Option (Bool)
 | 0, _, _, _, _, _, _, _, _, _, _, _ => none
 | k + 1, x1, x5, x6, x7, x11, x12, x13, x17, x113, x114, x115 => if x115 < x114 then (if 0 ≤ x115 then (if x115 < (x113.length : Int) then ((impl_NumberOfState.f k (rdOf ByteArray.empty x113 x115)).bind fun bt464 => ((impl_FewestPairMoves.f k x5 (rdOf ByteArray.empty x113 x115)).bind fun bt466 => (if bt464.2 = true then (if bt464.1 ≤ x17 then (some false) else (if bt466.2 = true then (if bt466.1 > x6 then (some false) else (laws_FnPairsNear.l0 k x1 x5 x6 x7 x11 x12 x13 bt464.1 x113 x114 (wrap64 (x115 + 1)))) else (some false))) else (some false)))) else (none)) else (none)) else ((laws_yText.f k x7 x5).bind fun t468 => (if t468 = true then (if x6 = 0 then (laws_FnPairsNear.j2 k x1 x5 x6 x7 x11 x12 x13 ((x7.length : Int) != 1)) else (laws_FnPairsNear.j2 k x1 x5 x6 x7 x11 x12 x13 false)) else (laws_FnPairsNear.j2 k x1 x5 x6 x7 x11 x12 x13 true)))
def laws_FnPairsNear.j2 : Nat → List Int → ByteArray → Int → List ByteArray → List ByteArray → Int → Bool → Bool → Option (Bool)
 | 0, _, _, _, _, _, _, _, _ => none
 | k + 1, x1, x5, x6, x7, x11, x12, x13, x160 => if x160 = true then (some false) else (if x6 > 0 then ((impl_NearByPairs.f k x5 (wrap64 (x6 - 1))).bind fun bt469 => (if bt469.2 = true then (if (bt469.1.length : Int) > (x7.length : Int) then (some false) else (if x6 ≤ x12 then (if (bt469.1.length : Int) = (x7.length : Int) then (some false) else (laws_FnPairsNear.j3 k x1 x5 x11 x12 x13)) else (laws_FnPairsNear.j3 k x1 x5 x11 x12 x13))) else (some false))) else (laws_FnPairsNear.j3 k x1 x5 x11 x12 x13))
end
def laws_FnPairsNear.f (k : Nat) (l0 : List Int) (l1 : List Int) : Option (Bool) := (laws_big.f l0 l1).bind fun t440 => (if t440 = true then (some true) else ((spec_DrawNearByPairs.f k l0).bind fun bt441 => ((impl_NearByPairs.f k bt441.1 bt441.2).bind fun bt443 => ((spec_NearByPairs.f k bt441.1 bt441.2).bind fun bt447 => ((impl_FarthestByPairs.f k bt441.1).bind fun bt451 => ((spec_FarthestByPairs.f k bt441.1).bind fun bt456 => (if (bt443.2 != bt447.2) = true then (laws_FnPairsNear.j0 k l1 bt441.1 bt441.2 bt443.1 bt443.2 bt451.1 bt451.2.1 bt451.2.2 true) else ((laws_yTexts.f k bt443.1 bt447.1).bind fun t461 => (if t461 = true then (if (bt451.2.2 != bt456.2.2) = true then (laws_FnPairsNear.j0 k l1 bt441.1 bt441.2 bt443.1 bt443.2 bt451.1 bt451.2.1 bt451.2.2 true) else ((laws_yTexts.f k bt451.1 bt456.1).bind fun t462 => (if t462 = true then (if bt451.2.1 = bt456.2.1 then (if bt443.2 = true then (laws_FnPairsNear.j0 k l1 bt441.1 bt441.2 bt443.1 bt443.2 bt451.1 bt451.2.1 bt451.2.2 (!bt451.2.2)) else (laws_FnPairsNear.j0 k l1 bt441.1 bt441.2 bt443.1 bt443.2 bt451.1 bt451.2.1 bt451.2.2 false)) else (laws_FnPairsNear.j0 k l1 bt441.1 bt441.2 bt443.1 bt443.2 bt451.1 bt451.2.1 bt451.2.2 true)) else (laws_FnPairsNear.j0 k l1 bt441.1 bt441.2 bt443.1 bt443.2 bt451.1 bt451.2.1 bt451.2.2 true)))) else (laws_FnPairsNear.j0 k l1 bt441.1 bt441.2 bt443.1 bt443.2 bt451.1 bt451.2.1 bt451.2.2 true))))))))))
theorem laws_FnPairsNear.mono_l : ∀ k, (∀ y0 y1 y2 y3 y4 y5 y6 y7 y8, LeO (laws_FnPairsNear.j0 k y0 y1 y2 y3 y4 y5 y6 y7 y8) (laws_FnPairsNear.j0 (k + 1) y0 y1 y2 y3 y4 y5 y6 y7 y8)) ∧ (∀ y0 y1 y2 y3 y4, LeO (laws_FnPairsNear.j3 k y0 y1 y2 y3 y4) (laws_FnPairsNear.j3 (k + 1) y0 y1 y2 y3 y4)) ∧ (∀ y0, LeO (laws_FnPairsNear.j5 k y0) (laws_FnPairsNear.j5 (k + 1) y0)) ∧ (∀ y0 y1 y2 y3 y4 y5 y6 y7, LeO (laws_FnPairsNear.j6 k y0 y1 y2 y3 y4 y5 y6 y7) (laws_FnPairsNear.j6 (k + 1) y0 y1 y2 y3 y4 y5 y6 y7)) ∧ (∀ y0 y1 y2 y3 y4, LeO (laws_FnPairsNear.j7 k y0 y1 y2 y3 y4) (laws_FnPairsNear.j7 (k + 1) y0 y1 y2 y3 y4)) ∧ (∀ y0 y1 y2, LeO (laws_FnPairsNear.j8 k y0 y1 y2) (laws_FnPairsNear.j8 (k + 1) y0 y1 y2)) ∧ (∀ y0 y1 y2 y3 y4 y5 y6, LeO (laws_FnPairsNear.l1 k y0 y1 y2 y3 y4 y5 y6) (laws_FnPairsNear.l1 (k + 1) y0 y1 y2 y3 y4 y5 y6)) ∧ (∀ y0 y1 y2 y3 y4 y5 y6 y7 y8 y9 y10, LeO (laws_FnPairsNear.l0 k y0 y1 y2 y3 y4 y5 y6 y7 y8 y9 y10) (laws_FnPairsNear.l0 (k + 1) y0 y1 y2 y3 y4 y5 y6 y7 y8 y9 y10)) ∧ (∀ y0 y1 y2 y3 y4 y5 y6 y7, LeO (laws_FnPairsNear.j2 k y0 y1 y2 y3 y4 y5 y6 y7) (laws_FnPairsNear.j2 (k + 1) y0 y1 y2 y3 y4 y5 y6 y7))
 | 0 => ⟨fun _ _ _ _ _ _ _ _ _ r h => by simp [laws_FnPairsNear.j0] at h, fun _ _ _ _ _ r h => by simp [laws_FnPairsNear.j3] at h, fun _ r h => by simp [laws_FnPairsNear.j5] at h, fun _ _ _ _ _ _ _ _ r h => by simp [laws_FnPairsNear.j6] at h, fun _ _ _ _ _ r h => by simp [laws_FnPairsNear.j7] at h, fun _ _ _ r h => by simp [laws_FnPairsNear.j8] at h, fun _ _ _ _ _ _ _ r h => by simp [laws_FnPairsNear.l1] at h, fun _ _ _ _ _ _ _ _ _ _ _ r h => by simp [laws_FnPairsNear.l0] at h, fun _ _ _ _ _ _ _ _ r h => by simp [laws_FnPairsNear.j2] at h⟩
 | k + 1 => by
  obtain ⟨ih0, ih1, ih2, ih3, ih4, ih5, ih6, ih7, ih8⟩ := laws_FnPairsNear.mono_l k
  refine ⟨?_, ?_, ?_, ?_, ?_, ?_, ?_, ?_, ?_⟩
  ·intro y0 y1 y2 y3 y4 y5 y6 y7 y8
   unfold laws_FnPairsNear.j0
   repeat' first
   | (with_reducible exact ih0 _ _ _ _ _ _ _ _ _)
   | (with_reducible exact ih1 _ _ _ _ _)
   | (with_reducible exact ih2 _)
   | (with_reducible exact ih3 _ _ _ _ _ _ _ _)
   | (with_reducible exact ih4 _ _ _ _ _)
   | (with_reducible exact ih5 _ _ _)
   | (with_reducible exact ih6 _ _ _ _ _ _ _)
   | (with_reducible exact ih7 _ _ _ _ _ _ _ _ _ _ _)
   | (with_reducible exact ih8 _ _ _ _ _ _ _ _)
   | (with_reducible exact impl_CountByPairs.mono _ _ _)
   | (with_reducible exact impl_FarthestByPairs.mono _ _)
   | (with_reducible exact impl_FewestPairMoves.mono _ _ _)
   | (with_reducible exact impl_MostSaved.mono _ _)
   | (with_reducible exact impl_MovesToClear.mono _ _)
   | (with_reducible exact impl_NearByPairs.mono _ _ _)
   | (with_reducible exact impl_NumberOfState.mono _ _)
   | (with_reducible exact impl_PairMovesToClear.mono _ _)
   | (with_reducible exact laws_yText.mono _ _ _)
   | (with_reducible exact laws_yTexts.mono _ _ _)
   | (with_reducible exact spec_CountByPairs.mono _ _ _)
   | (with_reducible exact spec_DrawNearByPairs.mono _ _)
   | (with_reducible exact spec_FarthestByPairs.mono _ _)
   | (with_reducible exact spec_MostSaved.mono _ _)
   | (with_reducible exact spec_NearByPairs.mono _ _ _)
   | (with_reducible exact spec_PairMovesToClear.mono _ _)
   | (with_reducible exact LeO.refl _)
   | (with_reducible exact LeO.none _)
   | (with_reducible refine LeO.ite ?_ ?_)
   | (with_reducible refine LeO.bind ?_ (fun _ => ?_))
   | exact ih0 _ _ _ _ _ _ _ _ _
   | exact ih1 _ _ _ _ _
   | exact ih2 _
   | exact ih3 _ _ _ _ _ _ _ _
   | exact ih4 _ _ _ _ _
   | exact ih5 _ _ _
   | exact ih6 _ _ _ _ _ _ _
   | exact ih7 _ _ _ _ _ _ _ _ _ _ _
   | exact ih8 _ _ _ _ _ _ _ _
   | exact impl_CountByPairs.mono _ _ _
   | exact impl_FarthestByPairs.mono _ _
   | exact impl_FewestPairMoves.mono _ _ _
   | exact impl_MostSaved.mono _ _
   | exact impl_MovesToClear.mono _ _
   | exact impl_NearByPairs.mono _ _ _
   | exact impl_NumberOfState.mono _ _
   | exact impl_PairMovesToClear.mono _ _
   | exact laws_yText.mono _ _ _
   | exact laws_yTexts.mono _ _ _
   | exact spec_CountByPairs.mono _ _ _
   | exact spec_DrawNearByPairs.mono _ _
   | exact spec_FarthestByPairs.mono _ _
   | exact spec_MostSaved.mono _ _
   | exact spec_NearByPairs.mono _ _ _
   | exact spec_PairMovesToClear.mono _ _
   | exact LeO.none _
   | refine LeO.ite ?_ ?_
   | refine LeO.bind ?_ (fun _ => ?_)
  ·intro y0 y1 y2 y3 y4
   unfold laws_FnPairsNear.j3
   repeat' first
   | (with_reducible exact ih0 _ _ _ _ _ _ _ _ _)
   | (with_reducible exact ih1 _ _ _ _ _)
   | (with_reducible exact ih2 _)
   | (with_reducible exact ih3 _ _ _ _ _ _ _ _)
   | (with_reducible exact ih4 _ _ _ _ _)
   | (with_reducible exact ih5 _ _ _)
   | (with_reducible exact ih6 _ _ _ _ _ _ _)
   | (with_reducible exact ih7 _ _ _ _ _ _ _ _ _ _ _)
   | (with_reducible exact ih8 _ _ _ _ _ _ _ _)
   | (with_reducible exact impl_CountByPairs.mono _ _ _)
   | (with_reducible exact impl_FarthestByPairs.mono _ _)
   | (with_reducible exact impl_FewestPairMoves.mono _ _ _)
   | (with_reducible exact impl_MostSaved.mono _ _)
   | (with_reducible exact impl_MovesToClear.mono _ _)
   | (with_reducible exact impl_NearByPairs.mono _ _ _)
   | (with_reducible exact impl_NumberOfState.mono _ _)
   | (with_reducible exact impl_PairMovesToClear.mono _ _)
   | (with_reducible exact laws_yText.mono _ _ _)
   | (with_reducible exact laws_yTexts.mono _ _ _)
   | (with_reducible exact spec_CountByPairs.mono _ _ _)
   | (with_reducible exact spec_DrawNearByPairs.mono _ _)
   | (with_reducible exact spec_FarthestByPairs.mono _ _)
   | (with_reducible exact spec_MostSaved.mono _ _)
   | (with_reducible exact spec_NearByPairs.mono _ _ _)
   | (with_reducible exact spec_PairMovesToClear.mono _ _)
   | (with_reducible exact LeO.refl _)
   | (with_reducible exact LeO.none _)
   | (with_reducible refine LeO.ite ?_ ?_)
   | (with_reducible refine LeO.bind ?_ (fun _ => ?_))
   | exact ih0 _ _ _ _ _ _ _ _ _
   | exact ih1 _ _ _ _ _
   | exact ih2 _
   | exact ih3 _ _ _ _ _ _ _ _
   | exact ih4 _ _ _ _ _
   | exact ih5 _ _ _
   | exact ih6 _ _ _ _ _ _ _
   | exact ih7 _ _ _ _ _ _ _ _ _ _ _
   | exact ih8 _ _ _ _ _ _ _ _
   | exact impl_CountByPairs.mono _ _ _
   | exact impl_FarthestByPairs.mono _ _
   | exact impl_FewestPairMoves.mono _ _ _
   | exact impl_MostSaved.mono _ _
   | exact impl_MovesToClear.mono _ _
   | exact impl_NearByPairs.mono _ _ _
   | exact impl_NumberOfState.mono _ _
   | exact impl_PairMovesToClear.mono _ _
   | exact laws_yText.mono _ _ _
   | exact laws_yTexts.mono _ _ _
   | exact spec_CountByPairs.mono _ _ _
   | exact spec_DrawNearByPairs.mono _ _
   | exact spec_FarthestByPairs.mono _ _
   | exact spec_MostSaved.mono _ _
   | exact spec_NearByPairs.mono _ _ _
   | exact spec_PairMovesToClear.mono _ _
   | exact LeO.none _
   | refine LeO.ite ?_ ?_
   | refine LeO.bind ?_ (fun _ => ?_)
  ·intro y0
   unfold laws_FnPairsNear.j5
   repeat' first
   | (with_reducible exact ih0 _ _ _ _ _ _ _ _ _)
   | (with_reducible exact ih1 _ _ _ _ _)
   | (with_reducible exact ih2 _)
   | (with_reducible exact ih3 _ _ _ _ _ _ _ _)
   | (with_reducible exact ih4 _ _ _ _ _)
   | (with_reducible exact ih5 _ _ _)
   | (with_reducible exact ih6 _ _ _ _ _ _ _)
   | (with_reducible exact ih7 _ _ _ _ _ _ _ _ _ _ _)
   | (with_reducible exact ih8 _ _ _ _ _ _ _ _)
   | (with_reducible exact impl_CountByPairs.mono _ _ _)
   | (with_reducible exact impl_FarthestByPairs.mono _ _)
   | (with_reducible exact impl_FewestPairMoves.mono _ _ _)
   | (with_reducible exact impl_MostSaved.mono _ _)
   | (with_reducible exact impl_MovesToClear.mono _ _)
   | (with_reducible exact impl_NearByPairs.mono _ _ _)
   | (with_reducible exact impl_NumberOfState.mono _ _)
   | (with_reducible exact impl_PairMovesToClear.mono _ _)
   | (with_reducible exact laws_yText.mono _ _ _)
   | (with_reducible exact laws_yTexts.mono _ _ _)
   | (with_reducible exact spec_CountByPairs.mono _ _ _)
   | (with_reducible exact spec_DrawNearByPairs.mono _ _)
   | (with_reducible exact spec_FarthestByPairs.mono _ _)
   | (with_reducible exact spec_MostSaved.mono _ _)
   | (with_reducible exact spec_NearByPairs.mono _ _ _)
   | (with_reducible exact spec_PairMovesToClear.mono _ _)
   | (with_reducible exact LeO.refl _)
   | (with_reducible exact LeO.none _)
   | (with_reducible refine LeO.ite ?_ ?_)
   | (with_reducible refine LeO.bind ?_ (fun _ => ?_))
   | exact ih0 _ _ _ _ _ _ _ _ _
   | exact ih1 _ _ _ _ _
   | exact ih2 _
   | exact ih3 _ _ _ _ _ _ _ _
   | exact ih4 _ _ _ _ _
   | exact ih5 _ _ _
   | exact ih6 _ _ _ _ _ _ _
   | exact ih7 _ _ _ _ _ _ _ _ _ _ _
   | exact ih8 _ _ _ _ _ _ _ _
   | exact impl_CountByPairs.mono _ _ _
   | exact impl_FarthestByPairs.mono _ _
   | exact impl_FewestPairMoves.mono _ _ _
   | exact impl_MostSaved.mono _ _
   | exact impl_MovesToClear.mono _ _
   | exact impl_NearByPairs.mono _ _ _
   | exact impl_NumberOfState.mono _ _
   | exact impl_PairMovesToClear.mono _ _
   | exact laws_yText.mono _ _ _
   | exact laws_yTexts.mono _ _ _
   | exact spec_CountByPairs.mono _ _ _
   | exact spec_DrawNearByPairs.mono _ _
   | exact spec_FarthestByPairs.mono _ _
   | exact spec_MostSaved.mono _ _
   | exact spec_NearByPairs.mono _ _ _
   | exact spec_PairMovesToClear.mono _ _
   | exact LeO.none _
   | refine LeO.ite ?_ ?_
   | refine LeO.bind ?_ (fun _ => ?_)
  ·intro y0 y1 y2 y3 y4 y5 y6 y7
   unfold laws_FnPairsNear.j6
   repeat' first
   | (with_reducible exact ih0 _ _ _ _ _ _ _ _ _)
   | (with_reducible exact ih1 _ _ _ _ _)
   | (with_reducible exact ih2 _)
   | (with_reducible exact ih3 _ _ _ _ _ _ _ _)
   | (with_reducible exact ih4 _ _ _ _ _)
   | (with_reducible exact ih5 _ _ _)
   | (with_reducible exact ih6 _ _ _ _ _ _ _)
   | (with_reducible exact ih7 _ _ _ _ _ _ _ _ _ _ _)
   | (with_reducible exact ih8 _ _ _ _ _ _ _ _)
   | (with_reducible exact impl_CountByPairs.mono _ _ _)
   | (with_reducible exact impl_FarthestByPairs.mono _ _)
   | (with_reducible exact impl_FewestPairMoves.mono _ _ _)
   | (with_reducible exact impl_MostSaved.mono _ _)
   | (with_reducible exact impl_MovesToClear.mono _ _)
   | (with_reducible exact impl_NearByPairs.mono _ _ _)
   | (with_reducible exact impl_NumberOfState.mono _ _)
   | (with_reducible exact impl_PairMovesToClear.mono _ _)
   | (with_reducible exact laws_yText.mono _ _ _)
   | (with_reducible exact laws_yTexts.mono _ _ _)
   | (with_reducible exact spec_CountByPairs.mono _ _ _)
   | (with_reducible exact spec_DrawNearByPairs.mono _ _)
   | (with_reducible exact spec_FarthestByPairs.mono _ _)
   | (with_reducible exact spec_MostSaved.mono _ _)
   | (with_reducible exact spec_NearByPairs.mono _ _ _)
   | (with_reducible exact spec_PairMovesToClear.mono _ _)
   | (with_reducible exact LeO.refl _)
   | (with_reducible exact LeO.none _)
   | (with_reducible refine LeO.ite ?_ ?_)
   | (with_reducible refine LeO.bind ?_ (fun _ => ?_))
   | exact ih0 _ _ _ _ _ _ _ _ _
   | exact ih1 _ _ _ _ _
   | exact ih2 _
   | exact ih3 _ _ _ _ _ _ _ _
   | exact ih4 _ _ _ _ _
   | exact ih5 _ _ _
   | exact ih6 _ _ _ _ _ _ _
   | exact ih7 _ _ _ _ _ _ _ _ _ _ _
   | exact ih8 _ _ _ _ _ _ _ _
   | exact impl_CountByPairs.mono _ _ _
   | exact impl_FarthestByPairs.mono _ _
   | exact impl_FewestPairMoves.mono _ _ _
   | exact impl_MostSaved.mono _ _
   | exact impl_MovesToClear.mono _ _
   | exact impl_NearByPairs.mono _ _ _
   | exact impl_NumberOfState.mono _ _
   | exact impl_PairMovesToClear.mono _ _
   | exact laws_yText.mono _ _ _
   | exact laws_yTexts.mono _ _ _
   | exact spec_CountByPairs.mono _ _ _
   | exact spec_DrawNearByPairs.mono _ _
   | exact spec_FarthestByPairs.mono _ _
   | exact spec_MostSaved.mono _ _
   | exact spec_NearByPairs.mono _ _ _
   | exact spec_PairMovesToClear.mono _ _
   | exact LeO.none _
   | refine LeO.ite ?_ ?_
   | refine LeO.bind ?_ (fun _ => ?_)
  ·intro y0 y1 y2 y3 y4
   unfold laws_FnPairsNear.j7
   repeat' first
   | (with_reducible exact ih0 _ _ _ _ _ _ _ _ _)
   | (with_reducible exact ih1 _ _ _ _ _)
   | (with_reducible exact ih2 _)
   | (with_reducible exact ih3 _ _ _ _ _ _ _ _)
   | (with_reducible exact ih4 _ _ _ _ _)
   | (with_reducible exact ih5 _ _ _)
   | (with_reducible exact ih6 _ _ _ _ _ _ _)
   | (with_reducible exact ih7 _ _ _ _ _ _ _ _ _ _ _)
   | (with_reducible exact ih8 _ _ _ _ _ _ _ _)
   | (with_reducible exact impl_CountByPairs.mono _ _ _)
   | (with_reducible exact impl_FarthestByPairs.mono _ _)
   | (with_reducible exact impl_FewestPairMoves.mono _ _ _)
   | (with_reducible exact impl_MostSaved.mono _ _)
   | (with_reducible exact impl_MovesToClear.mono _ _)
   | (with_reducible exact impl_NearByPairs.mono _ _ _)
   | (with_reducible exact impl_NumberOfState.mono _ _)
   | (with_reducible exact impl_PairMovesToClear.mono _ _)
   | (with_reducible exact laws_yText.mono _ _ _)
   | (with_reducible exact laws_yTexts.mono _ _ _)
   | (with_reducible exact spec_CountByPairs.mono _ _ _)
   | (with_reducible exact spec_DrawNearByPairs.mono _ _)
   | (with_reducible exact spec_FarthestByPairs.mono _ _)
   | (with_reducible exact spec_MostSaved.mono _ _)
   | (with_reducible exact spec_NearByPairs.mono _ _ _)
   | (with_reducible exact spec_PairMovesToClear.mono _ _)
   | (with_reducible exact LeO.refl _)
   | (with_reducible exact LeO.none _)
   | (with_reducible refine LeO.ite ?_ ?_)
   | (with_reducible refine LeO.bind ?_ (fun _ => ?_))
   | exact ih0 _ _ _ _ _ _ _ _ _
   | exact ih1 _ _ _ _ _
   | exact ih2 _
   | exact ih3 _ _ _ _ _ _ _ _
   | exact ih4 _ _ _ _ _
   | exact ih5 _ _ _
   | exact ih6 _ _ _ _ _ _ _
   | exact ih7 _ _ _ _ _ _ _ _ _ _ _
   | exact ih8 _ _ _ _ _ _ _ _
   | exact impl_CountByPairs.mono _ _ _
   | exact impl_FarthestByPairs.mono _ _
   | exact impl_FewestPairMoves.mono _ _ _
   | exact impl_MostSaved.mono _ _
   | exact impl_MovesToClear.mono _ _
   | exact impl_NearByPairs.mono _ _ _
   | exact impl_NumberOfState.mono _ _
   | exact impl_PairMovesToClear.mono _ _
   | exact laws_yText.mono _ _ _
   | exact laws_yTexts.mono _ _ _
   | exact spec_CountByPairs.mono _ _ _
   | exact spec_DrawNearByPairs.mono _ _
   | exact spec_FarthestByPairs.mono _ _
   | exact spec_MostSaved.mono _ _
   | exact spec_NearByPairs.mono _ _ _
   | exact spec_PairMovesToClear.mono _ _
   | exact LeO.none _
   | refine LeO.ite ?_ ?_
   | refine LeO.bind ?_ (fun _ => ?_)
  ·intro y0 y1 y2
   unfold laws_FnPairsNear.j8
   repeat' first
   | (with_reducible exact ih0 _ _ _ _ _ _ _ _ _)
   | (with_reducible exact ih1 _ _ _ _ _)
   | (with_reducible exact ih2 _)
   | (with_reducible exact ih3 _ _ _ _ _ _ _ _)
   | (with_reducible exact ih4 _ _ _ _ _)
   | (with_reducible exact ih5 _ _ _)
   | (with_reducible exact ih6 _ _ _ _ _ _ _)
   | (with_reducible exact ih7 _ _ _ _ _ _ _ _ _ _ _)
   | (with_reducible exact ih8 _ _ _ _ _ _ _ _)
   | (with_reducible exact impl_CountByPairs.mono _ _ _)
   | (with_reducible exact impl_FarthestByPairs.mono _ _)
   | (with_reducible exact impl_FewestPairMoves.mono _ _ _)
   | (with_reducible exact impl_MostSaved.mono _ _)
   | (with_reducible exact impl_MovesToClear.mono _ _)
   | (with_reducible exact impl_NearByPairs.mono _ _ _)
   | (with_reducible exact impl_NumberOfState.mono _ _)
   | (with_reducible exact impl_PairMovesToClear.mono _ _)
   | (with_reducible exact laws_yText.mono _ _ _)
   | (with_reducible exact laws_yTexts.mono _ _ _)
   | (with_reducible exact spec_CountByPairs.mono _ _ _)
   | (with_reducible exact spec_DrawNearByPairs.mono _ _)
   | (with_reducible exact spec_FarthestByPairs.mono _ _)
   | (with_reducible exact spec_MostSaved.mono _ _)
   | (with_reducible exact spec_NearByPairs.mono _ _ _)
   | (with_reducible exact spec_PairMovesToClear.mono _ _)
   | (with_reducible exact LeO.refl _)
   | (with_reducible exact LeO.none _)
   | (with_reducible refine LeO.ite ?_ ?_)
   | (with_reducible refine LeO.bind ?_ (fun _ => ?_))
   | exact ih0 _ _ _ _ _ _ _ _ _
   | exact ih1 _ _ _ _ _
   | exact ih2 _
   | exact ih3 _ _ _ _ _ _ _ _
   | exact ih4 _ _ _ _ _
   | exact ih5 _ _ _
   | exact ih6 _ _ _ _ _ _ _
   | exact ih7 _ _ _ _ _ _ _ _ _ _ _
   | exact ih8 _ _ _ _ _ _ _ _
   | exact impl_CountByPairs.mono _ _ _
   | exact impl_FarthestByPairs.mono _ _
   | exact impl_FewestPairMoves.mono _ _ _
   | exact impl_MostSaved.mono _ _
   | exact impl_MovesToClear.mono _ _
   | exact impl_NearByPairs.mono _ _ _
   | exact impl_NumberOfState.mono _ _
   | exact impl_PairMovesToClear.mono _ _
   | exact laws_yText.mono _ _ _
   | exact laws_yTexts.mono _ _ _
   | exact spec_CountByPairs.mono _ _ _
   | exact spec_DrawNearByPairs.mono _ _
   | exact spec_FarthestByPairs.mono _ _
   | exact spec_MostSaved.mono _ _
   | exact spec_NearByPairs.mono _ _ _
   | exact spec_PairMovesToClear.mono _ _
   | exact LeO.none _
   | refine LeO.ite ?_ ?_
   | refine LeO.bind ?_ (fun _ => ?_)
  ·intro y0 y1 y2 y3 y4 y5 y6
   unfold laws_FnPairsNear.l1
   repeat' first
   | (with_reducible exact ih0 _ _ _ _ _ _ _ _ _)
   | (with_reducible exact ih1 _ _ _ _ _)
   | (with_reducible exact ih2 _)
   | (with_reducible exact ih3 _ _ _ _ _ _ _ _)
   | (with_reducible exact ih4 _ _ _ _ _)
   | (with_reducible exact ih5 _ _ _)
   | (with_reducible exact ih6 _ _ _ _ _ _ _)
   | (with_reducible exact ih7 _ _ _ _ _ _ _ _ _ _ _)
   | (with_reducible exact ih8 _ _ _ _ _ _ _ _)
   | (with_reducible exact impl_CountByPairs.mono _ _ _)
   | (with_reducible exact impl_FarthestByPairs.mono _ _)
   | (with_reducible exact impl_FewestPairMoves.mono _ _ _)
   | (with_reducible exact impl_MostSaved.mono _ _)
   | (with_reducible exact impl_MovesToClear.mono _ _)
   | (with_reducible exact impl_NearByPairs.mono _ _ _)
   | (with_reducible exact impl_NumberOfState.mono _ _)
   | (with_reducible exact impl_PairMovesToClear.mono _ _)
   | (with_reducible exact laws_yText.mono _ _ _)
   | (with_reducible exact laws_yTexts.mono _ _ _)
   | (with_reducible exact spec_CountByPairs.mono _ _ _)
   | (with_reducible exact spec_DrawNearByPairs.mono _ _)
   | (with_reducible exact spec_FarthestByPairs.mono _ _)
   | (with_reducible exact spec_MostSaved.mono _ _)
   | (with_reducible exact spec_NearByPairs.mono _ _ _)
   | (with_reducible exact spec_PairMovesToClear.mono _ _)
   | (with_reducible exact LeO.refl _)
   | (with_reducible exact LeO.none _)
   | (with_reducible refine LeO.ite ?_ ?_)
   | (with_reducible refine LeO.bind ?_ (fun _ => ?_))
   | exact ih0 _ _ _ _ _ _ _ _ _
   | exact ih1 _ _ _ _ _
   | exact ih2 _
   | exact ih3 _ _ _ _ _ _ _ _
   | exact ih4 _ _ _ _ _
   | exact ih5 _ _ _
   | exact ih6 _ _ _ _ _ _ _
   | exact ih7 _ _ _ _ _ _ _ _ _ _ _
   | exact ih8 _ _ _ _ _ _ _ _
   | exact impl_CountByPairs.mono _ _ _
   | exact impl_FarthestByPairs.mono _ _
   | exact impl_FewestPairMoves.mono _ _ _
   | exact impl_MostSaved.mono _ _
   | exact impl_MovesToClear.mono _ _
   | exact impl_NearByPairs.mono _ _ _
   | exact impl_NumberOfState.mono _ _
   | exact impl_PairMovesToClear.mono _ _
   | exact laws_yText.mono _ _ _
   | exact laws_yTexts.mono _ _ _
   | exact spec_CountByPairs.mono _ _ _
   | exact spec_DrawNearByPairs.mono _ _
   | exact spec_FarthestByPairs.mono _ _
   | exact spec_MostSaved.mono _ _
   | exact spec_NearByPairs.mono _ _ _
   | exact spec_PairMovesToClear.mono _ _
   | exact LeO.none _
   | refine LeO.ite ?_ ?_
   | refine LeO.bind ?_ (fun _ => ?_)
  ·intro y0 y1 y2 y3 y4 y5 y6 y7 y8 y9 y10
   unfold laws_FnPairsNear.l0
   repeat' first
   | (with_reducible exact ih0 _ _ _ _ _ _ _ _ _)
   | (with_reducible exact ih1 _ _ _ _ _)
   | (with_reducible exact ih2 _)
   | (with_reducible exact ih3 _ _ _ _ _ _ _ _)
   | (with_reducible exact ih4 _ _ _ _ _)
   | (with_reducible exact ih5 _ _ _)
   | (with_reducible exact ih6 _ _ _ _ _ _ _)
   | (with_reducible exact ih7 _ _ _ _ _ _ _ _ _ _ _)
   | (with_reducible exact ih8 _ _ _ _ _ _ _ _)
   | (with_reducible exact impl_CountByPairs.mono _ _ _)
   | (with_reducible exact impl_FarthestByPairs.mono _ _)
   | (with_reducible exact impl_FewestPairMoves.mono _ _ _)
   | (with_reducible exact impl_MostSaved.mono _ _)
   | (with_reducible exact impl_MovesToClear.mono _ _)
   | (with_reducible exact impl_NearByPairs.mono _ _ _)
   | (with_reducible exact impl_NumberOfState.mono _ _)
   | (with_reducible exact impl_PairMovesToClear.mono _ _)
   | (with_reducible exact laws_yText.mono _ _ _)
   | (with_reducible exact laws_yTexts.mono _ _ _)
   | (with_reducible exact spec_CountByPairs.mono _ _ _)
   | (with_reducible exact spec_DrawNearByPairs.mono _ _)
   | (with_reducible exact spec_FarthestByPairs.mono _ _)
   | (with_reducible exact spec_MostSaved.mono _ _)
   | (with_reducible exact spec_NearByPairs.mono _ _ _)
   | (with_reducible exact spec_PairMovesToClear.mono _ _)
   | (with_reducible exact LeO.refl _)
   | (with_reducible exact LeO.none _)
   | (with_reducible refine LeO.ite ?_ ?_)
   | (with_reducible refine LeO.bind ?_ (fun _ => ?_))
   | exact ih0 _ _ _ _ _ _ _ _ _
   | exact ih1 _ _ _ _ _
   | exact ih2 _
   | exact ih3 _ _ _ _ _ _ _ _
   | exact ih4 _ _ _ _ _
   | exact ih5 _ _ _
   | exact ih6 _ _ _ _ _ _ _
   | exact ih7 _ _ _ _ _ _ _ _ _ _ _
   | exact ih8 _ _ _ _ _ _ _ _
   | exact impl_CountByPairs.mono _ _ _
   | exact impl_FarthestByPairs.mono _ _
   | exact impl_FewestPairMoves.mono _ _ _
   | exact impl_MostSaved.mono _ _
   | exact impl_MovesToClear.mono _ _
   | exact impl_NearByPairs.mono _ _ _
   | exact impl_NumberOfState.mono _ _
   | exact impl_PairMovesToClear.mono _ _
   | exact laws_yText.mono _ _ _
   | exact laws_yTexts.mono _ _ _
   | exact spec_CountByPairs.mono _ _ _
   | exact spec_DrawNearByPairs.mono _ _
   | exact spec_FarthestByPairs.mono _ _
   | exact spec_MostSaved.mono _ _
   | exact spec_NearByPairs.mono _ _ _
   | exact spec_PairMovesToClear.mono _ _
   | exact LeO.none _
   | refine LeO.ite ?_ ?_
   | refine LeO.bind ?_ (fun _ => ?_)
  ·intro y0 y1 y2 y3 y4 y5 y6 y7
   unfold laws_FnPairsNear.j2
   repeat' first
   | (with_reducible exact ih0 _ _ _ _ _ _ _ _ _)
   | (with_reducible exact ih1 _ _ _ _ _)
   | (with_reducible exact ih2 _)
   | (with_reducible exact ih3 _ _ _ _ _ _ _ _)
   | (with_reducible exact ih4 _ _ _ _ _)
   | (with_reducible exact ih5 _ _ _)
   | (with_reducible exact ih6 _ _ _ _ _ _ _)
   | (with_reducible exact ih7 _ _ _ _ _ _ _ _ _ _ _)
   | (with_reducible exact ih8 _ _ _ _ _ _ _ _)
   | (with_reducible exact impl_CountByPairs.mono _ _ _)
   | (with_reducible exact impl_FarthestByPairs.mono _ _)
   | (with_reducible exact impl_FewestPairMoves.mono _ _ _)
   | (with_reducible exact impl_MostSaved.mono _ _)
   | (with_reducible exact impl_MovesToClear.mono _ _)
   | (with_reducible exact impl_NearByPairs.mono _ _ _)
   | (with_reducible exact impl_NumberOfState.mono _ _)
   | (with_reducible exact impl_PairMovesToClear.mono _ _)
   | (with_reducible exact laws_yText.mono _ _ _)
   | (with_reducible exact laws_yTexts.mono _ _ _)
   | (with_reducible exact spec_CountByPairs.mono _ _ _)
   | (with_reducible exact spec_DrawNearByPairs.mono _ _)
   | (with_reducible exact spec_FarthestByPairs.mono _ _)
   | (with_reducible exact spec_MostSaved.mono _ _)
   | (with_reducible exact spec_NearByPairs.mono _ _ _)
   | (with_reducible exact spec_PairMovesToClear.mono _ _)
   | (with_reducible exact LeO.refl _)
   | (with_reducible exact LeO.none _)
   | (with_reducible refine LeO.ite ?_ ?_)
   | (with_reducible refine LeO.bind ?_ (fun _ => ?_))
   | exact ih0 _ _ _ _ _ _ _ _ _
   | exact ih1 _ _ _ _ _
   | exact ih2 _
   | exact ih3 _ _ _ _ _ _ _ _
   | exact ih4 _ _ _ _ _
   | exact ih5 _ _ _
   | exact ih6 _ _ _ _ _ _ _
   | exact ih7 _ _ _ _ _ _ _ _ _ _ _
   | exact ih8 _ _ _ _ _ _ _ _
   | exact impl_CountByPairs.mono _ _ _
   | exact impl_FarthestByPairs.mono _ _
   | exact impl_FewestPairMoves.mono _ _ _
   | exact impl_MostSaved.mono _ _
   | exact impl_MovesToClear.mono _ _
   | exact impl_NearByPairs.mono _ _ _
   | exact impl_NumberOfState.mono _ _
   | exact impl_PairMovesToClear.mono _ _
   | exact laws_yText.mono _ _ _
   | exact laws_yTexts.mono _ _ _
   | exact spec_CountByPairs.mono _ _ _
   | exact spec_DrawNearByPairs.mono _ _
   | exact spec_FarthestByPairs.mono _ _
   | exact spec_MostSaved.mono _ _
   | exact spec_NearByPairs.mono _ _ _
   | exact spec_PairMovesToClear.mono _ _
   | exact LeO.none _
   | refine LeO.ite ?_ ?_
   | refine LeO.bind ?_ (fun _ => ?_)
theorem laws_FnPairsNear.mono : ∀ a0 a1 k, LeO (laws_FnPairsNear.f k a0 a1) (laws_FnPairsNear.f (k + 1) a0 a1) := by
 intro a0 a1 k
 obtain ⟨ih0, ih1, ih2, ih3, ih4, ih5, ih6, ih7, ih8⟩ := laws_FnPairsNear.mono_l k
 unfold laws_FnPairsNear.f
 repeat' first
   | (with_reducible exact ih0 _ _ _ _ _ _ _ _ _)
   | (with_reducible exact ih1 _ _ _ _ _)
   | (with_reducible exact ih2 _)
   | (with_reducible exact ih3 _ _ _ _ _ _ _ _)
   | (with_reducible exact ih4 _ _ _ _ _)
   | (with_reducible exact ih5 _ _ _)
   | (with_reducible exact ih6 _ _ _ _ _ _ _)
   | (with_reducible exact ih7 _ _ _ _ _ _ _ _ _ _ _)
   | (with_reducible exact ih8 _ _ _ _ _ _ _ _)
   | (with_reducible exact impl_CountByPairs.mono _ _ _)
   | (with_reducible exact impl_FarthestByPairs.mono _ _)
   | (with_reducible exact impl_FewestPairMoves.mono _ _ _)
   | (with_reducible exact impl_MostSaved.mono _ _)
   | (with_reducible exact impl_MovesToClear.mono _ _)
   | (with_reducible exact impl_NearByPairs.mono _ _ _)
   | (with_reducible exact impl_NumberOfState.mono _ _)
   | (with_reducible exact impl_PairMovesToClear.mono _ _)
   | (with_reducible exact laws_yText.mono _ _ _)
   | (with_reducible exact laws_yTexts.mono _ _ _)
   | (with_reducible exact spec_CountByPairs.mono _ _ _)
   | (with_reducible exact spec_DrawNearByPairs.mono _ _)
   | (with_reducible exact spec_FarthestByPairs.mono _ _)
   | (with_reducible exact spec_MostSaved.mono _ _)
   | (with_reducible exact spec_NearByPairs.mono _ _ _)
   | (with_reducible exact spec_PairMovesToClear.mono _ _)
   | (with_reducible exact LeO.refl _)
   | (with_reducible exact LeO.none _)
   | (with_reducible refine LeO.ite ?_ ?_)
   | (with_reducible refine LeO.bind ?_ (fun _ => ?_))
   | exact ih0 _ _ _ _ _ _ _ _ _
   | exact ih1 _ _ _ _ _
   | exact ih2 _
   | exact ih3 _ _ _ _ _ _ _ _
   | exact ih4 _ _ _ _ _
   | exact ih5 _ _ _
   | exact ih6 _ _ _ _ _ _ _
   | exact ih7 _ _ _ _ _ _ _ _ _ _ _
   | exact ih8 _ _ _ _ _ _ _ _
   | exact impl_CountByPairs.mono _ _ _
   | exact impl_FarthestByPairs.mono _ _
   | exact impl_FewestPairMoves.mono _ _ _
   | exact impl_MostSaved.mono _ _
   | exact impl_MovesToClear.mono _ _
   | exact impl_NearByPairs.mono _ _ _
   | exact impl_NumberOfState.mono _ _
   | exact impl_PairMovesToClear.mono _ _
   | exact laws_yText.mono _ _ _
   | exact laws_yTexts.mono _ _ _
   | exact spec_CountByPairs.mono _ _ _
   | exact spec_DrawNearByPairs.mono _ _
   | exact spec_FarthestByPairs.mono _ _
   | exact spec_MostSaved.mono _ _
   | exact spec_NearByPairs.mono _ _ _
   | exact spec_PairMovesToClear.mono _ _
   | exact LeO.none _
   | refine LeO.ite ?_ ?_
   | refine LeO.bind ?_ (fun _ => ?_)
set_option maxHeartbeats 8000000 in
set_option maxRecDepth 100000 in
theorem laws_FnPairsNear.calls (k : Nat) (A0 : Option Addr) (c0 : Nat) (l0 : List Int) (A1 : Option Addr) (c1 : Nat) (l1 : List Int) (r : Bool) (w : World) (hr0 : Kd.C (Kd.int .u8) w A0 l0.length l0) (hc0 : l0.length ≤ c0) (hr1 : Kd.C (Kd.int .u8) w A1 l1.length l1) (hc1 : l1.length ≤ c1) (h : laws_FnPairsNear.f k l0 l1 = some r) :
  Calls Tryz.prog 3 #[.slice A0 l0.length c0, .slice A1 l1.length c1] w fun e w' => e = .returned (.bool r) ∧ Below w.heap.size w w' := by
 have HR0 := aM hr0
 have HC0 := aM hc0
 clear hr0 hc0
 have HR1 := aM hr1
 have HC1 := aM hc1
 clear hr1 hc1
 have HB := aM (Below.refl w.heap.size w)
 have H : ((laws_big.f l0 l1).bind fun t440 => (if t440 = true then (some true) else ((spec_DrawNearByPairs.f k l0).bind fun bt441 => ((impl_NearByPairs.f k bt441.1 bt441.2).bind fun bt443 => ((spec_NearByPairs.f k bt441.1 bt441.2).bind fun bt447 => ((impl_FarthestByPairs.f k bt441.1).bind fun bt451 => ((spec_FarthestByPairs.f k bt441.1).bind fun bt456 => (if (bt443.2 != bt447.2) = true then (laws_FnPairsNear.j0 k l1 bt441.1 bt441.2 bt443.1 bt443.2 bt451.1 bt451.2.1 bt451.2.2 true) else ((laws_yTexts.f k bt443.1 bt447.1).bind fun t461 => (if t461 = true then (if (bt451.2.2 != bt456.2.2) = true then (laws_FnPairsNear.j0 k l1 bt441.1 bt441.2 bt443.1 bt443.2 bt451.1 bt451.2.1 bt451.2.2 true) else ((laws_yTexts.f k bt451.1 bt456.1).bind fun t462 => (if t462 = true then (if bt451.2.1 = bt456.2.1 then (if bt443.2 = true then (laws_FnPairsNear.j0 k l1 bt441.1 bt441.2 bt443.1 bt443.2 bt451.1 bt451.2.1 bt451.2.2 (!bt451.2.2)) else (laws_FnPairsNear.j0 k l1 bt441.1 bt441.2 bt443.1 bt443.2 bt451.1 bt451.2.1 bt451.2.2 false)) else (laws_FnPairsNear.j0 k l1 bt441.1 bt441.2 bt443.1 bt443.2 bt451.1 bt451.2.1 bt451.2.2 true)) else (laws_FnPairsNear.j0 k l1 bt441.1 bt441.2 bt443.1 bt443.2 bt451.1 bt451.2.1 bt451.2.2 true)))) else (laws_FnPairsNear.j0 k l1 bt441.1 bt441.2 bt443.1 bt443.2 bt451.1 bt451.2.1 bt451.2.2 true))))))))))) = some r := h
 clear h
 replace H := Option.bind_eq_some_iff.mp H
 obtain ⟨t440, A30, H⟩ := H
 replace H : (if t440 = true then (some true) else ((spec_DrawNearByPairs.f k l0).bind fun bt441 => ((impl_NearByPairs.f k bt441.1 bt441.2).bind fun bt443 => ((spec_NearByPairs.f k bt441.1 bt441.2).bind fun bt447 => ((impl_FarthestByPairs.f k bt441.1).bind fun bt451 => ((spec_FarthestByPairs.f k bt441.1).bind fun bt456 => (if (bt443.2 != bt447.2) = true then (laws_FnPairsNear.j0 k l1 bt441.1 bt441.2 bt443.1 bt443.2 bt451.1 bt451.2.1 bt451.2.2 true) else ((laws_yTexts.f k bt443.1 bt447.1).bind fun t461 => (if t461 = true then (if (bt451.2.2 != bt456.2.2) = true then (laws_FnPairsNear.j0 k l1 bt441.1 bt441.2 bt443.1 bt443.2 bt451.1 bt451.2.1 bt451.2.2 true) else ((laws_yTexts.f k bt451.1 bt456.1).bind fun t462 => (if t462 = true then (if bt451.2.1 = bt456.2.1 then (if bt443.2 = true then (laws_FnPairsNear.j0 k l1 bt441.1 bt441.2 bt443.1 bt443.2 bt451.1 bt451.2.1 bt451.2.2 (!bt451.2.2)) else (laws_FnPairsNear.j0 k l1 bt441.1 bt441.2 bt443.1 bt443.2 bt451.1 bt451.2.1 bt451.2.2 false)) else (laws_FnPairsNear.j0 k l1 bt441.1 bt441.2 bt443.1 bt443.2 bt451.1 bt451.2.1 bt451.2.2 true)) else (laws_FnPairsNear.j0 k l1 bt441.1 bt441.2 bt443.1 bt443.2 bt451.1 bt451.2.1 bt451.2.2 true)))) else (laws_FnPairsNear.j0 k l1 bt441.1 bt441.2 bt443.1 bt443.2 bt451.1 bt451.2.1 bt451.2.2 true)))))))))) = some r := H
 have A3 := aM A30
 clear A30
 by_cases c4 : t440 = true
 ·subst c4
  have H1 : (some true) = some r := by rw [if_pos rfl] at H; exact H
  clear H; have H := H1; clear H1
  obtain rfl := Option.some.inj H
  go_enter Tryz.func3, Tryz.ntmps3
  go_wp2_with (first | ((with_reducible refine gate_callee (f := 4) rfl ?_); refine goesL_ (some 50) rfl rfl Tryz.func4 (by kernel_rfl) rfl #[.slice A0 l0.length c0, .slice A1 l1.length c1] rfl (by (try simp only [List.map_toArray, List.map_cons, List.map_nil]); first | done | rfl | (simp only [List.length_drop, List.length_take]; rfl)) ?_; (with_reducible refine (laws_big.calls _ _ l0 _ _ l1 true _ ?side1 ?side2 ?side3 ?side4 A3.out).mono ?_); (case side1 => repeat (first | exact HR0.out | (with_reducible refine cA ?_ _) | (with_reducible refine cN ?_ _) | (with_reducible refine cD ?_))); (case side2 => exact HC0.out); (case side3 => repeat (first | exact HR1.out | (with_reducible refine cA ?_ _) | (with_reducible refine cN ?_ _) | (with_reducible refine cD ?_))); (case side4 => exact HC1.out); rintro e w' ⟨rfl, ⟨nd, rfl⟩⟩; refine ⟨_, rfl, ?_⟩))
  go_ret
  exact ⟨by first | rfl | (simp [errW_none, errW_some] <;> rfl) | (simp [*, errW_none, errW_some] <;> rfl), by repeat (first | (with_reducible first | exact HB.out | apply bA | apply bN | apply bD) | exact HB.out)⟩
 ·as_aux_lemma =>
   replace c4 := Bool.eq_false_iff.mpr c4
   subst c4
   have H1 : ((spec_DrawNearByPairs.f k l0).bind fun bt441 => ((impl_NearByPairs.f k bt441.1 bt441.2).bind fun bt443 => ((spec_NearByPairs.f k bt441.1 bt441.2).bind fun bt447 => ((impl_FarthestByPairs.f k bt441.1).bind fun bt451 => ((spec_FarthestByPairs.f k bt441.1).bind fun bt456 => (if (bt443.2 != bt447.2) = true then (laws_FnPairsNear.j0 k l1 bt441.1 bt441.2 bt443.1 bt443.2 bt451.1 bt451.2.1 bt451.2.2 true) else ((laws_yTexts.f k bt443.1 bt447.1).bind fun t461 => (if t461 = true then (if (bt451.2.2 != bt456.2.2) = true then (laws_FnPairsNear.j0 k l1 bt441.1 bt441.2 bt443.1 bt443.2 bt451.1 bt451.2.1 bt451.2.2 true) else ((laws_yTexts.f k bt451.1 bt456.1).bind fun t462 => (if t462 = true then (if bt451.2.1 = bt456.2.1 then (if bt443.2 = true then (laws_FnPairsNear.j0 k l1 bt441.1 bt441.2 bt443.1 bt443.2 bt451.1 bt451.2.1 bt451.2.2 (!bt451.2.2)) else (laws_FnPairsNear.j0 k l1 bt441.1 bt441.2 bt443.1 bt443.2 bt451.1 bt451.2.1 bt451.2.2 false)) else (laws_FnPairsNear.j0 k l1 bt441.1 bt441.2 bt443.1 bt443.2 bt451.1 bt451.2.1 bt451.2.2 true)) else (laws_FnPairsNear.j0 k l1 bt441.1 bt441.2 bt443.1 bt443.2 bt451.1 bt451.2.1 bt451.2.2 true)))) else (laws_FnPairsNear.j0 k l1 bt441.1 bt441.2 bt443.1 bt443.2 bt451.1 bt451.2.1 bt451.2.2 true))))))))) = some r := by rw [if_neg (show ¬ (false = true) by decide)] at H; exact H
   clear H; have H := H1; clear H1
   replace H := Option.bind_eq_some_iff.mp H
   obtain ⟨⟨t441, t442⟩, A50, H⟩ := H
   replace H : ((impl_NearByPairs.f k t441 t442).bind fun bt443 => ((spec_NearByPairs.f k t441 t442).bind fun bt447 => ((impl_FarthestByPairs.f k t441).bind fun bt451 => ((spec_FarthestByPairs.f k t441).bind fun bt456 => (if (bt443.2 != bt447.2) = true then (laws_FnPairsNear.j0 k l1 t441 t442 bt443.1 bt443.2 bt451.1 bt451.2.1 bt451.2.2 true) else ((laws_yTexts.f k bt443.1 bt447.1).bind fun t461 => (if t461 = true then (if (bt451.2.2 != bt456.2.2) = true then (laws_FnPairsNear.j0 k l1 t441 t442 bt443.1 bt443.2 bt451.1 bt451.2.1 bt451.2.2 true) else ((laws_yTexts.f k bt451.1 bt456.1).bind fun t462 => (if t462 = true then (if bt451.2.1 = bt456.2.1 then (if bt443.2 = true then (laws_FnPairsNear.j0 k l1 t441 t442 bt443.1 bt443.2 bt451.1 bt451.2.1 bt451.2.2 (!bt451.2.2)) else (laws_FnPairsNear.j0 k l1 t441 t442 bt443.1 bt443.2 bt451.1 bt451.2.1 bt451.2.2 false)) else (laws_FnPairsNear.j0 k l1 t441 t442 bt443.1 bt443.2 bt451.1 bt451.2.1 bt451.2.2 true)) else (laws_FnPairsNear.j0 k l1 t441 t442 bt443.1 bt443.2 bt451.1 bt451.2.1 bt451.2.2 true)))) else (laws_FnPairsNear.j0 k l1 t441 t442 bt443.1 bt443.2 bt451.1 bt451.2.1 bt451.2.2 true)))))))) = some r := H
   have A5 := aM A50
   clear A50
   replace H := Option.bind_eq_some_iff.mp H
   obtain ⟨⟨t443, t444⟩, A60, H⟩ := H
   replace H : ((spec_NearByPairs.f k t441 t442).bind fun bt447 => ((impl_FarthestByPairs.f k t441).bind fun bt451 => ((spec_FarthestByPairs.f k t441).bind fun bt456 => (if (t444 != bt447.2) = true then (laws_FnPairsNear.j0 k l1 t441 t442 t443 t444 bt451.1 bt451.2.1 bt451.2.2 true) else ((laws_yTexts.f k t443 bt447.1).bind fun t461 => (if t461 = true then (if (bt451.2.2 != bt456.2.2) = true then (laws_FnPairsNear.j0 k l1 t441 t442 t443 t444 bt451.1 bt451.2.1 bt451.2.2 true) else ((laws_yTexts.f k bt451.1 bt456.1).bind fun t462 => (if t462 = true then (if bt451.2.1 = bt456.2.1 then (if t444 = true then (laws_FnPairsNear.j0 k l1 t441 t442 t443 t444 bt451.1 bt451.2.1 bt451.2.2 (!bt451.2.2)) else (laws_FnPairsNear.j0 k l1 t441 t442 t443 t444 bt451.1 bt451.2.1 bt451.2.2 false)) else (laws_FnPairsNear.j0 k l1 t441 t442 t443 t444 bt451.1 bt451.2.1 bt451.2.2 true)) else (laws_FnPairsNear.j0 k l1 t441 t442 t443 t444 bt451.1 bt451.2.1 bt451.2.2 true)))) else (laws_FnPairsNear.j0 k l1 t441 t442 t443 t444 bt451.1 bt451.2.1 bt451.2.2 true))))))) = some r := H
   have A6 := aM A60
   clear A60
   replace H := Option.bind_eq_some_iff.mp H
   obtain ⟨⟨t447, t448⟩, A70, H⟩ := H
   replace H : ((impl_FarthestByPairs.f k t441).bind fun bt451 => ((spec_FarthestByPairs.f k t441).bind fun bt456 => (if (t444 != t448) = true then (laws_FnPairsNear.j0 k l1 t441 t442 t443 t444 bt451.1 bt451.2.1 bt451.2.2 true) else ((laws_yTexts.f k t443 t447).bind fun t461 => (if t461 = true then (if (bt451.2.2 != bt456.2.2) = true then (laws_FnPairsNear.j0 k l1 t441 t442 t443 t444 bt451.1 bt451.2.1 bt451.2.2 true) else ((laws_yTexts.f k bt451.1 bt456.1).bind fun t462 => (if t462 = true then (if bt451.2.1 = bt456.2.1 then (if t444 = true then (laws_FnPairsNear.j0 k l1 t441 t442 t443 t444 bt451.1 bt451.2.1 bt451.2.2 (!bt451.2.2)) else (laws_FnPairsNear.j0 k l1 t441 t442 t443 t444 bt451.1 bt451.2.1 bt451.2.2 false)) else (laws_FnPairsNear.j0 k l1 t441 t442 t443 t444 bt451.1 bt451.2.1 bt451.2.2 true)) else (laws_FnPairsNear.j0 k l1 t441 t442 t443 t444 bt451.1 bt451.2.1 bt451.2.2 true)))) else (laws_FnPairsNear.j0 k l1 t441 t442 t443 t444 bt451.1 bt451.2.1 bt451.2.2 true)))))) = some r := H
   have A7 := aM A70
   clear A70
   replace H := Option.bind_eq_some_iff.mp H
   obtain ⟨⟨t451, t452, t453⟩, A80, H⟩ := H
   replace H : ((spec_FarthestByPairs.f k t441).bind fun bt456 => (if (t444 != t448) = true then (laws_FnPairsNear.j0 k l1 t441 t442 t443 t444 t451 t452 t453 true) else ((laws_yTexts.f k t443 t447).bind fun t461 => (if t461 = true then (if (t453 != bt456.2.2) = true then (laws_FnPairsNear.j0 k l1 t441 t442 t443 t444 t451 t452 t453 true) else ((laws_yTexts.f k t451 bt456.1).bind fun t462 => (if t462 = true then (if t452 = bt456.2.1 then (if t444 = true then (laws_FnPairsNear.j0 k l1 t441 t442 t443 t444 t451 t452 t453 (!t453)) else (laws_FnPairsNear.j0 k l1 t441 t442 t443 t444 t451 t452 t453 false)) else (laws_FnPairsNear.j0 k l1 t441 t442 t443 t444 t451 t452 t453 true)) else (laws_FnPairsNear.j0 k l1 t441 t442 t443 t444 t451 t452 t453 true)))) else (laws_FnPairsNear.j0 k l1 t441 t442 t443 t444 t451 t452 t453 true))))) = some r := H
   have A8 := aM A80
   clear A80
   replace H := Option.bind_eq_some_iff.mp H
   obtain ⟨⟨t456, t457, t458⟩, A90, H⟩ := H
   replace H : (if (t444 != t448) = true then (laws_FnPairsNear.j0 k l1 t441 t442 t443 t444 t451 t452 t453 true) else ((laws_yTexts.f k t443 t447).bind fun t461 => (if t461 = true then (if (t453 != t458) = true then (laws_FnPairsNear.j0 k l1 t441 t442 t443 t444 t451 t452 t453 true) else ((laws_yTexts.f k t451 t456).bind fun t462 => (if t462 = true then (if t452 = t457 then (if t444 = true then (laws_FnPairsNear.j0 k l1 t441 t442 t443 t444 t451 t452 t453 (!t453)) else (laws_FnPairsNear.j0 k l1 t441 t442 t443 t444 t451 t452 t453 false)) else (laws_FnPairsNear.j0 k l1 t441 t442 t443 t444 t451 t452 t453 true)) else (laws_FnPairsNear.j0 k l1 t441 t442 t443 t444 t451 t452 t453 true)))) else (laws_FnPairsNear.j0 k l1 t441 t442 t443 t444 t451 t452 t453 true)))) = some r := H
   have A9 := aM A90
   clear A90
   have HC10 := aM H
   clear H
   go_enter Tryz.func3, Tryz.ntmps3
   go_upto_region 8 with (first | ((with_reducible refine gate_callee (f := 4) rfl ?_); refine goesL_ (some 50) rfl rfl Tryz.func4 (by kernel_rfl) rfl #[.slice A0 l0.length c0, .slice A1 l1.length c1] rfl (by (try simp only [List.map_toArray, List.map_cons, List.map_nil]); first | done | rfl | (simp only [List.length_drop, List.length_take]; rfl)) ?_; (with_reducible refine (laws_big.calls _ _ l0 _ _ l1 false _ ?side1 ?side2 ?side3 ?side4 A3.out).mono ?_); (case side1 => repeat (first | exact HR0.out | (with_reducible refine cA ?_ _) | (with_reducible refine cN ?_ _) | (with_reducible refine cD ?_))); (case side2 => exact HC0.out); (case side3 => repeat (first | exact HR1.out | (with_reducible refine cA ?_ _) | (with_reducible refine cN ?_ _) | (with_reducible refine cD ?_))); (case side4 => exact HC1.out); rintro e w' ⟨rfl, ⟨nd, rfl⟩⟩; refine ⟨_, rfl, ?_⟩) | ((with_reducible refine gate_callee (f := 5) rfl ?_); refine goesL_ (some 53) rfl rfl Tryz.func5 (by kernel_rfl) rfl #[.slice A0 l0.length c0] rfl (by (try simp only [List.map_toArray, List.map_cons, List.map_nil]); first | done | rfl | (simp only [List.length_drop, List.length_take]; rfl)) ?_; (with_reducible refine (spec_DrawNearByPairs.calls k _ _ l0 t441 t442 _ ?side1 ?side2 A5.out).mono ?_); (case side1 => repeat (first | exact HR0.out | (with_reducible refine cA ?_ _) | (with_reducible refine cN ?_ _) | (with_reducible refine cD ?_))); (case side2 => exact HC0.out); rintro e w11 ⟨rfl, hb⟩; refine ⟨_, rfl, ?_⟩; have n0_ := aM (below_step (by repeat (first | (with_reducible first | exact HB.out | apply bA | apply bN | apply bD) | exact HB.out)) hb); clear HB; have HB := n0_; clear n0_; (try clear hb); (try clear hb2); (try clear hk); (try clear hi)) | ((with_reducible refine gate_callee (f := 6) rfl ?_); refine goesL_ (some 59) rfl rfl Tryz.func6 (by kernel_rfl) rfl #[.string t441, .int .i64 t442] rfl (by (try simp only [List.map_toArray, List.map_cons, List.map_nil]); first | done | rfl | (simp only [List.length_drop, List.length_take]; rfl)) ?_; (with_reducible refine (impl_NearByPairs.calls k t441 t442 t443 t444 _ A6.out).mono ?_); rintro e w12 ⟨v445, rfl, ho0, hb⟩; refine ⟨_, rfl, ?_⟩; have n0_ := aM (Kd.R_lower ho0 (below_size (by repeat (first | (with_reducible first | exact HB.out | apply bA | apply bN | apply bD) | exact HB.out)))); have n1_ := aM (below_step (by repeat (first | (with_reducible first | exact HB.out | apply bA | apply bN | apply bD) | exact HB.out)) hb); clear HB; have HO446 := n0_; have HB := n1_; clear n0_ n1_; (try clear hb); (try clear hb2); (try clear hk); (try clear hi); (try clear ho0)) | ((with_reducible refine gate_callee (f := 7) rfl ?_); refine goesL_ (some 65) rfl rfl Tryz.func7 (by kernel_rfl) rfl #[.string t441, .int .i64 t442] rfl (by (try simp only [List.map_toArray, List.map_cons, List.map_nil]); first | done | rfl | (simp only [List.length_drop, List.length_take]; rfl)) ?_; (with_reducible refine (spec_NearByPairs.calls k t441 t442 t447 t448 _ A7.out).mono ?_); rintro e w13 ⟨v449, rfl, ho0, hb⟩; refine ⟨_, rfl, ?_⟩; have n0_ := aM (Kd.R_elder' (by (with_reducible repeat (first | apply rA | apply rN | apply rD)); exact HO446.out) (Kd.R_base ho0) hb); have n1_ := aM (Kd.R_lower (Kd.R_new' ho0 (Kd.R_lt (by (with_reducible repeat (first | apply rA | apply rN | apply rD)); exact HO446.out))) (below_size (by repeat (first | (with_reducible first | exact HB.out | apply bA | apply bN | apply bD) | exact HB.out)))); have n2_ := aM (below_step (by repeat (first | (with_reducible first | exact HB.out | apply bA | apply bN | apply bD) | exact HB.out)) hb); clear HO446; clear HB; have HO446 := n0_; have HO450 := n1_; have HB := n2_; clear n0_ n1_ n2_; (try clear hb); (try clear hb2); (try clear hk); (try clear hi); (try clear ho0)) | ((with_reducible refine gate_callee (f := 8) rfl ?_); refine goesL_ (some 70) rfl rfl Tryz.func8 (by kernel_rfl) rfl #[.string t441] rfl (by (try simp only [List.map_toArray, List.map_cons, List.map_nil]); first | done | rfl | (simp only [List.length_drop, List.length_take]; rfl)) ?_; (with_reducible refine (impl_FarthestByPairs.calls k t441 t451 t452 t453 _ A8.out).mono ?_); rintro e w14 ⟨v454, rfl, ho0, hb⟩; refine ⟨_, rfl, ?_⟩; have n0_ := aM (Kd.R_elder' (by (with_reducible repeat (first | apply rA | apply rN | apply rD)); exact HO446.out) (Kd.R_base ho0) hb); have n1_ := aM (Kd.R_elder' (by (with_reducible repeat (first | apply rA | apply rN | apply rD)); exact HO450.out) (Kd.R_base ho0) hb); have n2_ := aM (Kd.R_lower (Kd.R_new' (Kd.R_new' ho0 (Kd.R_lt (by (with_reducible repeat (first | apply rA | apply rN | apply rD)); exact HO446.out))) (Kd.R_lt (by (with_reducible repeat (first | apply rA | apply rN | apply rD)); exact HO450.out))) (below_size (by repeat (first | (with_reducible first | exact HB.out | apply bA | apply bN | apply bD) | exact HB.out)))); have n3_ := aM (below_step (by repeat (first | (with_reducible first | exact HB.out | apply bA | apply bN | apply bD) | exact HB.out)) hb); clear HO446; clear HO450; clear HB; have HO446 := n0_; have HO450 := n1_; have HO455 := n2_; have HB := n3_; clear n0_ n1_ n2_ n3_; (try clear hb); (try clear hb2); (try clear hk); (try clear hi); (try clear ho0)) | ((with_reducible refine gate_callee (f := 9) rfl ?_); refine goesL_ (some 76) rfl rfl Tryz.func9 (by kernel_rfl) rfl #[.string t441] rfl (by (try simp only [List.map_toArray, List.map_cons, List.map_nil]); first | done | rfl | (simp only [List.length_drop, List.length_take]; rfl)) ?_; (with_reducible refine (spec_FarthestByPairs.calls k t441 t456 t457 t458 _ A9.out).mono ?_); rintro e w15 ⟨v459, rfl, ho0, hb⟩; refine ⟨_, rfl, ?_⟩; have n0_ := aM (Kd.R_elder' (by (with_reducible repeat (first | apply rA | apply rN | apply rD)); exact HO446.out) (Kd.R_base ho0) hb); have n1_ := aM (Kd.R_elder' (by (with_reducible repeat (first | apply rA | apply rN | apply rD)); exact HO450.out) (Kd.R_base ho0) hb); have n2_ := aM (Kd.R_elder' (by (with_reducible repeat (first | apply rA | apply rN | apply rD)); exact HO455.out) (Kd.R_base ho0) hb); have n3_ := aM (Kd.R_lower (Kd.R_new' (Kd.R_new' (Kd.R_new' ho0 (Kd.R_lt (by (with_reducible repeat (first | apply rA | apply rN | apply rD)); exact HO446.out))) (Kd.R_lt (by (with_reducible repeat (first | apply rA | apply rN | apply rD)); exact HO450.out))) (Kd.R_lt (by (with_reducible repeat (first | apply rA | apply rN | apply rD)); exact HO455.out))) (below_size (by repeat (first | (with_reducible first | exact HB.out | apply bA | apply bN | apply bD) | exact HB.out)))); have n4_ := aM (below_step (by repeat (first | (with_reducible first | exact HB.out | apply bA | apply bN | apply bD) | exact HB.out)) hb); clear HO446; clear HO450; clear HO455; clear HB; have HO446 := n0_; have HO450 := n1_; have HO455 := n2_; have HO460 := n3_; have HB := n4_; clear n0_ n1_ n2_ n3_ n4_; (try clear hb); (try clear hb2); (try clear hk); (try clear hi); (try clear ho0)))
   (try simp only [Act.put, sA, sB, sC])
   go_cut [111] (fun v111 wc => ∃ (kq : Nat) (x111_9 : Bool), v111 = .bool x111_9 ∧ Aside0 (laws_FnPairsNear.j0 kq l1 t441 t442 t443 t444 t451 t452 t453 x111_9 = some r) ∧ Aside0 (kq ≤ k) ∧ Aside0 (Kd.R Kd.string 9 wc w.heap.size (fun k_ => some k_ ≠ (v454 : Value).ownBlock) v445 t443) ∧ Aside0 (Kd.R Kd.string 9 wc w.heap.size (fun k_ => some k_ ≠ (v445 : Value).ownBlock) v454 t451) ∧ Aside0 (Below w.heap.size w wc))
   case first =>
    as_aux_lemma =>
     have H := HC10.out
     clear HC10
     by_cases c16 : (t444 != t448) = true
     ·rw [if_pos c16] at H
      have c16b0 : (t444 != t448) = true := c16
      (try (have c16b1 : decide (t444 = t448) = false := by simpa using c16))
      (try (have c16b2 : (t444 == t448) = false := by simpa using c16))
      (try (have c16b3 : ¬ (t444 = t448) := by simpa using c16))
      clear c16
      (first | rw [c16b0] | (simp only [i64_w, i32_w]; rw [c16b0]) | skip)
      have H' := aM H
      clear H
      go_wp2
      go_meet
      case rel => exact ⟨_, (true), (by first | rfl | (simp; done) | (simp [*]; done)), H', ⟨by first | omega | exact Nat.le_refl _⟩, ⟨by (with_reducible repeat (first | apply rA | apply rN | apply rD)); exact Kd.R_mono HO446.out (fun _ hk => hk.1.2)⟩, ⟨by (with_reducible repeat (first | apply rA | apply rN | apply rD)); exact Kd.R_mono HO455.out (fun _ hk => hk.1.1.2)⟩, ⟨by repeat (first | (with_reducible first | exact HB.out | apply bA | apply bN | apply bD) | exact HB.out)⟩⟩
     ·as_aux_lemma =>
       rw [if_neg c16] at H
       have c16b0 : (t444 != t448) = false := by simpa using c16
       (try (have c16b1 : decide (t444 = t448) = true := by simpa using c16))
       (try (have c16b2 : (t444 == t448) = true := by simpa using c16))
       clear c16
       (first | rw [c16b0] | (simp only [i64_w, i32_w]; rw [c16b0]) | skip)
       replace H := Option.bind_eq_some_iff.mp H
       obtain ⟨t461, A170, H⟩ := H
       replace H : (if t461 = true then (if (t453 != t458) = true then (laws_FnPairsNear.j0 k l1 t441 t442 t443 t444 t451 t452 t453 true) else ((laws_yTexts.f k t451 t456).bind fun t462 => (if t462 = true then (if t452 = t457 then (if t444 = true then (laws_FnPairsNear.j0 k l1 t441 t442 t443 t444 t451 t452 t453 (!t453)) else (laws_FnPairsNear.j0 k l1 t441 t442 t443 t444 t451 t452 t453 false)) else (laws_FnPairsNear.j0 k l1 t441 t442 t443 t444 t451 t452 t453 true)) else (laws_FnPairsNear.j0 k l1 t441 t442 t443 t444 t451 t452 t453 true)))) else (laws_FnPairsNear.j0 k l1 t441 t442 t443 t444 t451 t452 t453 true)) = some r := H
       have A17 := aM A170
       clear A170
       by_cases c18 : t461 = true
       ·as_aux_lemma =>
         subst c18
         have H1 : (if (t453 != t458) = true then (laws_FnPairsNear.j0 k l1 t441 t442 t443 t444 t451 t452 t453 true) else ((laws_yTexts.f k t451 t456).bind fun t462 => (if t462 = true then (if t452 = t457 then (if t444 = true then (laws_FnPairsNear.j0 k l1 t441 t442 t443 t444 t451 t452 t453 (!t453)) else (laws_FnPairsNear.j0 k l1 t441 t442 t443 t444 t451 t452 t453 false)) else (laws_FnPairsNear.j0 k l1 t441 t442 t443 t444 t451 t452 t453 true)) else (laws_FnPairsNear.j0 k l1 t441 t442 t443 t444 t451 t452 t453 true)))) = some r := by rw [if_pos rfl] at H; exact H
         clear H; have H := H1; clear H1
         by_cases c19 : (t453 != t458) = true
         ·rw [if_pos c19] at H
          have c19b0 : (t453 != t458) = true := c19
          (try (have c19b1 : decide (t453 = t458) = false := by simpa using c19))
          (try (have c19b2 : (t453 == t458) = false := by simpa using c19))
          (try (have c19b3 : ¬ (t453 = t458) := by simpa using c19))
          clear c19
          have H' := aM H
          clear H
          obtain ⟨Ao20, co20, eo20⟩ := Kd.R_slice HO446.out
          subst eo20
          obtain ⟨Ao21, co21, eo21⟩ := Kd.R_slice HO450.out
          subst eo21
          go_wp2_with (first | (go_at_call 10; (with_reducible refine (laws_yTexts.calls k _ _ t443 _ _ t447 true _ ?side1 ?side2 ?side3 ?side4 A17.out).mono ?_); (case side1 => repeat (first | exact (Kd.R_reads' HO446.out).2.2 | (with_reducible refine cA ?_ _) | (with_reducible refine cN ?_ _) | (with_reducible refine cD ?_))); (case side2 => exact (Kd.R_reads' HO446.out).2.1); (case side3 => repeat (first | exact (Kd.R_reads' HO450.out).2.2 | (with_reducible refine cA ?_ _) | (with_reducible refine cN ?_ _) | (with_reducible refine cD ?_))); (case side4 => exact (Kd.R_reads' HO450.out).2.1); rintro e w' ⟨rfl, ⟨nd, rfl⟩⟩))
          go_meet
          case rel => exact ⟨_, (true), (by first | rfl | (simp; done) | (simp [*]; done)), H', ⟨by first | omega | exact Nat.le_refl _⟩, ⟨by (with_reducible repeat (first | apply rA | apply rN | apply rD)); exact Kd.R_mono HO446.out (fun _ hk => hk.1.2)⟩, ⟨by (with_reducible repeat (first | apply rA | apply rN | apply rD)); exact Kd.R_mono HO455.out (fun _ hk => hk.1.1.2)⟩, ⟨by repeat (first | (with_reducible first | exact HB.out | apply bA | apply bN | apply bD) | exact HB.out)⟩⟩
         ·as_aux_lemma =>
           rw [if_neg c19] at H
           have c19b0 : (t453 != t458) = false := by simpa using c19
           (try (have c19b1 : decide (t453 = t458) = true := by simpa using c19))
           (try (have c19b2 : (t453 == t458) = true := by simpa using c19))
           clear c19
           replace H := Option.bind_eq_some_iff.mp H
           obtain ⟨t462, A220, H⟩ := H
           replace H : (if t462 = true then (if t452 = t457 then (if t444 = true then (laws_FnPairsNear.j0 k l1 t441 t442 t443 t444 t451 t452 t453 (!t453)) else (laws_FnPairsNear.j0 k l1 t441 t442 t443 t444 t451 t452 t453 false)) else (laws_FnPairsNear.j0 k l1 t441 t442 t443 t444 t451 t452 t453 true)) else (laws_FnPairsNear.j0 k l1 t441 t442 t443 t444 t451 t452 t453 true)) = some r := H
           have A22 := aM A220
           clear A220
           by_cases c23 : t462 = true
           ·subst c23
            have H1 : (if t452 = t457 then (if t444 = true then (laws_FnPairsNear.j0 k l1 t441 t442 t443 t444 t451 t452 t453 (!t453)) else (laws_FnPairsNear.j0 k l1 t441 t442 t443 t444 t451 t452 t453 false)) else (laws_FnPairsNear.j0 k l1 t441 t442 t443 t444 t451 t452 t453 true)) = some r := by rw [if_pos rfl] at H; exact H
            clear H; have H := H1; clear H1
            by_cases c24 : t452 = t457
            ·rw [if_pos c24] at H
             have c24b0 : (t452 == t457) = true := beq_iff_eq.mpr c24
             have c24b1 : (t452 != t457) = false := bne_eq_false_iff_eq.mpr c24
             clear c24
             by_cases c25 : t444 = true
             ·subst c25
              have H1 : (laws_FnPairsNear.j0 k l1 t441 t442 t443 true t451 t452 t453 (!t453)) = some r := by rw [if_pos rfl] at H; exact H
              clear H; have H := H1; clear H1
              have H' := aM H
              clear H
              obtain ⟨Ao26, co26, eo26⟩ := Kd.R_slice HO446.out
              subst eo26
              obtain ⟨Ao27, co27, eo27⟩ := Kd.R_slice HO450.out
              subst eo27
              go_wp2_with (first | (go_at_call 10; (with_reducible refine (laws_yTexts.calls k _ _ t443 _ _ t447 true _ ?side1 ?side2 ?side3 ?side4 A17.out).mono ?_); (case side1 => repeat (first | exact (Kd.R_reads' HO446.out).2.2 | (with_reducible refine cA ?_ _) | (with_reducible refine cN ?_ _) | (with_reducible refine cD ?_))); (case side2 => exact (Kd.R_reads' HO446.out).2.1); (case side3 => repeat (first | exact (Kd.R_reads' HO450.out).2.2 | (with_reducible refine cA ?_ _) | (with_reducible refine cN ?_ _) | (with_reducible refine cD ?_))); (case side4 => exact (Kd.R_reads' HO450.out).2.1); rintro e w' ⟨rfl, ⟨nd, rfl⟩⟩; obtain ⟨Ao28, co28, eo28⟩ := Kd.R_slice HO455.out; subst eo28; obtain ⟨Ao29, co29, eo29⟩ := Kd.R_slice HO460.out; subst eo29) | (go_at_call 10; (with_reducible refine (laws_yTexts.calls k _ _ t451 _ _ t456 true _ ?side1 ?side2 ?side3 ?side4 A22.out).mono ?_); (case side1 => repeat (first | exact (Kd.R_reads' HO455.out).2.2 | (with_reducible refine cA ?_ _) | (with_reducible refine cN ?_ _) | (with_reducible refine cD ?_))); (case side2 => exact (Kd.R_reads' HO455.out).2.1); (case side3 => repeat (first | exact (Kd.R_reads' HO460.out).2.2 | (with_reducible refine cA ?_ _) | (with_reducible refine cN ?_ _) | (with_reducible refine cD ?_))); (case side4 => exact (Kd.R_reads' HO460.out).2.1); rintro e w' ⟨rfl, ⟨nd, rfl⟩⟩))
              go_meet
              case rel => exact ⟨_, (!t453), (by first | rfl | (simp; done) | (simp [*]; done)), H', ⟨by first | omega | exact Nat.le_refl _⟩, ⟨by (with_reducible repeat (first | apply rA | apply rN | apply rD)); exact Kd.R_mono HO446.out (fun _ hk => hk.1.2)⟩, ⟨by (with_reducible repeat (first | apply rA | apply rN | apply rD)); exact Kd.R_mono HO455.out (fun _ hk => hk.1.1.2)⟩, ⟨by repeat (first | (with_reducible first | exact HB.out | apply bA | apply bN | apply bD) | exact HB.out)⟩⟩
             ·replace c25 := Bool.eq_false_iff.mpr c25
              subst c25
              have H1 : (laws_FnPairsNear.j0 k l1 t441 t442 t443 false t451 t452 t453 false) = some r := by rw [if_neg (show ¬ (false = true) by decide)] at H; exact H
              clear H; have H := H1; clear H1
              have H' := aM H
              clear H
              obtain ⟨Ao30, co30, eo30⟩ := Kd.R_slice HO446.out
              subst eo30
              obtain ⟨Ao31, co31, eo31⟩ := Kd.R_slice HO450.out
              subst eo31
              go_wp2_with (first | (go_at_call 10; (with_reducible refine (laws_yTexts.calls k _ _ t443 _ _ t447 true _ ?side1 ?side2 ?side3 ?side4 A17.out).mono ?_); (case side1 => repeat (first | exact (Kd.R_reads' HO446.out).2.2 | (with_reducible refine cA ?_ _) | (with_reducible refine cN ?_ _) | (with_reducible refine cD ?_))); (case side2 => exact (Kd.R_reads' HO446.out).2.1); (case side3 => repeat (first | exact (Kd.R_reads' HO450.out).2.2 | (with_reducible refine cA ?_ _) | (with_reducible refine cN ?_ _) | (with_reducible refine cD ?_))); (case side4 => exact (Kd.R_reads' HO450.out).2.1); rintro e w' ⟨rfl, ⟨nd, rfl⟩⟩; obtain ⟨Ao32, co32, eo32⟩ := Kd.R_slice HO455.out; subst eo32; obtain ⟨Ao33, co33, eo33⟩ := Kd.R_slice HO460.out; subst eo33) | (go_at_call 10; (with_reducible refine (laws_yTexts.calls k _ _ t451 _ _ t456 true _ ?side1 ?side2 ?side3 ?side4 A22.out).mono ?_); (case side1 => repeat (first | exact (Kd.R_reads' HO455.out).2.2 | (with_reducible refine cA ?_ _) | (with_reducible refine cN ?_ _) | (with_reducible refine cD ?_))); (case side2 => exact (Kd.R_reads' HO455.out).2.1); (case side3 => repeat (first | exact (Kd.R_reads' HO460.out).2.2 | (with_reducible refine cA ?_ _) | (with_reducible refine cN ?_ _) | (with_reducible refine cD ?_))); (case side4 => exact (Kd.R_reads' HO460.out).2.1); rintro e w' ⟨rfl, ⟨nd, rfl⟩⟩))
              go_meet
              case rel => exact ⟨_, (false), (by first | rfl | (simp; done) | (simp [*]; done)), H', ⟨by first | omega | exact Nat.le_refl _⟩, ⟨by (with_reducible repeat (first | apply rA | apply rN | apply rD)); exact Kd.R_mono HO446.out (fun _ hk => hk.1.2)⟩, ⟨by (with_reducible repeat (first | apply rA | apply rN | apply rD)); exact Kd.R_mono HO455.out (fun _ hk => hk.1.1.2)⟩, ⟨by repeat (first | (with_reducible first | exact HB.out | apply bA | apply bN | apply bD) | exact HB.out)⟩⟩
            ·rw [if_neg c24] at H
             have c24b0 : (t452 == t457) = false := beq_eq_false_iff_ne.mpr c24
             have c24b1 : (t452 != t457) = true := bne_iff_ne.mpr c24
             have H' := aM H
             clear H
             obtain ⟨Ao34, co34, eo34⟩ := Kd.R_slice HO446.out
             subst eo34
             obtain ⟨Ao35, co35, eo35⟩ := Kd.R_slice HO450.out
             subst eo35
             go_wp2_with (first | (go_at_call 10; (with_reducible refine (laws_yTexts.calls k _ _ t443 _ _ t447 true _ ?side1 ?side2 ?side3 ?side4 A17.out).mono ?_); (case side1 => repeat (first | exact (Kd.R_reads' HO446.out).2.2 | (with_reducible refine cA ?_ _) | (with_reducible refine cN ?_ _) | (with_reducible refine cD ?_))); (case side2 => exact (Kd.R_reads' HO446.out).2.1); (case side3 => repeat (first | exact (Kd.R_reads' HO450.out).2.2 | (with_reducible refine cA ?_ _) | (with_reducible refine cN ?_ _) | (with_reducible refine cD ?_))); (case side4 => exact (Kd.R_reads' HO450.out).2.1); rintro e w' ⟨rfl, ⟨nd, rfl⟩⟩; obtain ⟨Ao36, co36, eo36⟩ := Kd.R_slice HO455.out; subst eo36; obtain ⟨Ao37, co37, eo37⟩ := Kd.R_slice HO460.out; subst eo37) | (go_at_call 10; (with_reducible refine (laws_yTexts.calls k _ _ t451 _ _ t456 true _ ?side1 ?side2 ?side3 ?side4 A22.out).mono ?_); (case side1 => repeat (first | exact (Kd.R_reads' HO455.out).2.2 | (with_reducible refine cA ?_ _) | (with_reducible refine cN ?_ _) | (with_reducible refine cD ?_))); (case side2 => exact (Kd.R_reads' HO455.out).2.1); (case side3 => repeat (first | exact (Kd.R_reads' HO460.out).2.2 | (with_reducible refine cA ?_ _) | (with_reducible refine cN ?_ _) | (with_reducible refine cD ?_))); (case side4 => exact (Kd.R_reads' HO460.out).2.1); rintro e w' ⟨rfl, ⟨nd, rfl⟩⟩))
             go_meet
             case rel => exact ⟨_, (true), (by first | rfl | (simp; done) | (simp [*]; done)), H', ⟨by first | omega | exact Nat.le_refl _⟩, ⟨by (with_reducible repeat (first | apply rA | apply rN | apply rD)); exact Kd.R_mono HO446.out (fun _ hk => hk.1.2)⟩, ⟨by (with_reducible repeat (first | apply rA | apply rN | apply rD)); exact Kd.R_mono HO455.out (fun _ hk => hk.1.1.2)⟩, ⟨by repeat (first | (with_reducible first | exact HB.out | apply bA | apply bN | apply bD) | exact HB.out)⟩⟩
           ·replace c23 := Bool.eq_false_iff.mpr c23
            subst c23
            have H1 : (laws_FnPairsNear.j0 k l1 t441 t442 t443 t444 t451 t452 t453 true) = some r := by rw [if_neg (show ¬ (false = true) by decide)] at H; exact H
            clear H; have H := H1; clear H1
            have H' := aM H
            clear H
            obtain ⟨Ao38, co38, eo38⟩ := Kd.R_slice HO446.out
            subst eo38
            obtain ⟨Ao39, co39, eo39⟩ := Kd.R_slice HO450.out
            subst eo39
            go_wp2_with (first | (go_at_call 10; (with_reducible refine (laws_yTexts.calls k _ _ t443 _ _ t447 true _ ?side1 ?side2 ?side3 ?side4 A17.out).mono ?_); (case side1 => repeat (first | exact (Kd.R_reads' HO446.out).2.2 | (with_reducible refine cA ?_ _) | (with_reducible refine cN ?_ _) | (with_reducible refine cD ?_))); (case side2 => exact (Kd.R_reads' HO446.out).2.1); (case side3 => repeat (first | exact (Kd.R_reads' HO450.out).2.2 | (with_reducible refine cA ?_ _) | (with_reducible refine cN ?_ _) | (with_reducible refine cD ?_))); (case side4 => exact (Kd.R_reads' HO450.out).2.1); rintro e w' ⟨rfl, ⟨nd, rfl⟩⟩; obtain ⟨Ao40, co40, eo40⟩ := Kd.R_slice HO455.out; subst eo40; obtain ⟨Ao41, co41, eo41⟩ := Kd.R_slice HO460.out; subst eo41) | (go_at_call 10; (with_reducible refine (laws_yTexts.calls k _ _ t451 _ _ t456 false _ ?side1 ?side2 ?side3 ?side4 A22.out).mono ?_); (case side1 => repeat (first | exact (Kd.R_reads' HO455.out).2.2 | (with_reducible refine cA ?_ _) | (with_reducible refine cN ?_ _) | (with_reducible refine cD ?_))); (case side2 => exact (Kd.R_reads' HO455.out).2.1); (case side3 => repeat (first | exact (Kd.R_reads' HO460.out).2.2 | (with_reducible refine cA ?_ _) | (with_reducible refine cN ?_ _) | (with_reducible refine cD ?_))); (case side4 => exact (Kd.R_reads' HO460.out).2.1); rintro e w' ⟨rfl, ⟨nd, rfl⟩⟩))
            go_meet
            case rel => exact ⟨_, (true), (by first | rfl | (simp; done) | (simp [*]; done)), H', ⟨by first | omega | exact Nat.le_refl _⟩, ⟨by (with_reducible repeat (first | apply rA | apply rN | apply rD)); exact Kd.R_mono HO446.out (fun _ hk => hk.1.2)⟩, ⟨by (with_reducible repeat (first | apply rA | apply rN | apply rD)); exact Kd.R_mono HO455.out (fun _ hk => hk.1.1.2)⟩, ⟨by repeat (first | (with_reducible first | exact HB.out | apply bA | apply bN | apply bD) | exact HB.out)⟩⟩
       ·replace c18 := Bool.eq_false_iff.mpr c18
        subst c18
        have H1 : (laws_FnPairsNear.j0 k l1 t441 t442 t443 t444 t451 t452 t453 true) = some r := by rw [if_neg (show ¬ (false = true) by decide)] at H; exact H
        clear H; have H := H1; clear H1
        have H' := aM H
        clear H
        obtain ⟨Ao42, co42, eo42⟩ := Kd.R_slice HO446.out
        subst eo42
        obtain ⟨Ao43, co43, eo43⟩ := Kd.R_slice HO450.out
        subst eo43
        go_wp2_with (first | (go_at_call 10; (with_reducible refine (laws_yTexts.calls k _ _ t443 _ _ t447 false _ ?side1 ?side2 ?side3 ?side4 A17.out).mono ?_); (case side1 => repeat (first | exact (Kd.R_reads' HO446.out).2.2 | (with_reducible refine cA ?_ _) | (with_reducible refine cN ?_ _) | (with_reducible refine cD ?_))); (case side2 => exact (Kd.R_reads' HO446.out).2.1); (case side3 => repeat (first | exact (Kd.R_reads' HO450.out).2.2 | (with_reducible refine cA ?_ _) | (with_reducible refine cN ?_ _) | (with_reducible refine cD ?_))); (case side4 => exact (Kd.R_reads' HO450.out).2.1); rintro e w' ⟨rfl, ⟨nd, rfl⟩⟩))
        go_meet
        case rel => exact ⟨_, (true), (by first | rfl | (simp; done) | (simp [*]; done)), H', ⟨by first | omega | exact Nat.le_refl _⟩, ⟨by (with_reducible repeat (first | apply rA | apply rN | apply rD)); exact Kd.R_mono HO446.out (fun _ hk => hk.1.2)⟩, ⟨by (with_reducible repeat (first | apply rA | apply rN | apply rD)); exact Kd.R_mono HO455.out (fun _ hk => hk.1.1.2)⟩, ⟨by repeat (first | (with_reducible first | exact HB.out | apply bA | apply bN | apply bD) | exact HB.out)⟩⟩
   case rest =>
    as_aux_lemma =>
     clear HC10
     try clear c1
     try clear c2
     try clear p2
     try clear c3
     try clear c4
     try clear c5
     try clear c6
     try clear c7
     try clear c8
     try clear c9
     try clear c16
     try clear c16b0
     try clear c16b1
     try clear c16b2
     try clear c18
     try clear c19
     try clear c19b0
     try clear c19b1
     try clear c19b2
     try clear c23
     try clear c24
     try clear c24b0
     try clear c24b1
     try clear c25
     obtain ⟨kq, x111_9, rfl, HA, HJ9, HO_7, HO_11, HB⟩ := hcut
     cases kq with
     | zero => exact absurd HA.out (by simp [laws_FnPairsNear.j0])
     | succ kj9 =>
      have H := HA.out
      clear HA
      simp only [laws_FnPairsNear.j0] at H
      by_cases c44 : x111_9 = true
      ·subst c44
       have H1 : (some false) = some r := by rw [if_pos rfl] at H; exact H
       clear H; have H := H1; clear H1
       obtain rfl := Option.some.inj H
       go_wp2
       go_ret
       exact ⟨by first | rfl | (simp [errW_none, errW_some] <;> rfl) | (simp [*, errW_none, errW_some] <;> rfl), by repeat (first | (with_reducible first | exact HB.out | apply bA | apply bN | apply bD) | exact HB.out)⟩
      ·as_aux_lemma =>
        replace c44 := Bool.eq_false_iff.mpr c44
        subst c44
        have H1 : (if t444 = true then (laws_FnPairsNear.l0 kj9 l1 t441 t442 t443 t451 t452 t453 (-1) t443 (t443.length : Int) 0) else (laws_FnPairsNear.j3 kj9 l1 t441 t451 t452 t453)) = some r := by rw [if_neg (show ¬ (false = true) by decide)] at H; exact H
        clear H; have H := H1; clear H1
        have HC45 := aM H
        clear H
        go_upto_if 112 with (fail)
        go_cut [] (fun wc => ∃ (kq : Nat), Aside0 (laws_FnPairsNear.j3 kq l1 t441 t451 t452 t453 = some r) ∧ Aside0 (kq ≤ kj9) ∧ Aside0 (Kd.R Kd.string 9 wc w.heap.size (fun _ => True) v454 t451) ∧ Aside0 (Below w.heap.size w wc))
        case first =>
         as_aux_lemma =>
          have H := HC45.out
          clear HC45
          by_cases c46 : t444 = true
          ·as_aux_lemma =>
            subst c46
            have H1 : (laws_FnPairsNear.l0 kj9 l1 t441 t442 t443 t451 t452 t453 (-1) t443 (t443.length : Int) 0) = some r := by rw [if_pos rfl] at H; exact H
            clear H; have H := H1; clear H1
            have H' := aM H
            clear H
            obtain ⟨Ao47, co47, eo47⟩ := Kd.R_slice HO_7.out
            subst eo47
            go_wp2
            go_loopg [17, 115] kj9 (fun kq v17 v115 w' => ∃ (x17_2 : Int) (x115_2 : Int), v17 = .int .i64 x17_2 ∧ v115 = .int .i64 x115_2 ∧ Aside0 (laws_FnPairsNear.l0 kq l1 t441 t442 t443 t451 t452 t453 x17_2 t443 (t443.length : Int) x115_2 = some r) ∧ Aside0 (kq ≤ kj9) ∧ Aside0 (Kd.R Kd.string 9 w' w.heap.size (fun k_ => some k_ ≠ (v454 : Value).ownBlock) (.slice Ao47 t443.length co47) t443) ∧ Aside0 (Kd.R Kd.string 9 w' w.heap.size (fun k_ => some k_ ≠ ((.slice Ao47 t443.length co47) : Value).ownBlock ∧ some k_ ≠ ((.slice Ao47 t443.length co47) : Value).ownBlock) v454 t451) ∧ Aside0 (Kd.R Kd.string 9 w' w.heap.size (fun k_ => some k_ ≠ (v454 : Value).ownBlock) (.slice Ao47 t443.length co47) t443) ∧ Aside0 (Below w.heap.size w w'))
            case atStart => exact ⟨((-1)), (0), (by first | rfl | (simp; done) | (simp [*]; done)), (by first | rfl | (simp; done) | (simp [*]; done)), H', ⟨Nat.le_refl _⟩, ⟨by (with_reducible repeat (first | apply rA | apply rN | apply rD)); exact HO_7.out⟩, ⟨by (with_reducible repeat (first | apply rA | apply rN | apply rD)); exact Kd.R_mono HO_11.out (fun _ hk => ⟨hk, hk⟩)⟩, ⟨by (with_reducible repeat (first | apply rA | apply rN | apply rD)); exact HO_7.out⟩, ⟨by repeat (first | (with_reducible first | exact HB.out | apply bA | apply bN | apply bD) | exact HB.out)⟩⟩
            case round =>
             as_aux_lemma =>
              clear H'
              try clear c1
              try clear c2
              try clear p2
              try clear c3
              try clear c4
              try clear c5
              try clear c6
              try clear c7
              try clear c8
              try clear c9
              try clear c16
              try clear c16b0
              try clear c16b1
              try clear c16b2
              try clear c18
              try clear c19
              try clear c19b0
              try clear c19b1
              try clear c19b2
              try clear c23
              try clear c24
              try clear c24b0
              try clear c24b1
              try clear c25
              try clear c44
              try clear c46
              try clear p2
              obtain ⟨x17_2, x115_2, rfl, rfl, HA, HK2, HO_7, HO_11, HO_113, HB⟩ := hrel
              cases gk with
              | zero => exact absurd HA.out (by simp [laws_FnPairsNear.l0])
              | succ k2 =>
               have H := HA.out
               clear HA
               simp only [laws_FnPairsNear.l0] at H
               by_cases c48 : x115_2 < (t443.length : Int)
               ·as_aux_lemma =>
                 rw [if_pos c48] at H
                 have c48b0 : decide (x115_2 < (t443.length : Int)) = true := decide_eq_true c48
                 clear c48
                 (first | rw [c48b0] | (simp only [i64_w, i32_w]; rw [c48b0]) | skip)
                 by_cases c49 : 0 ≤ x115_2
                 ·as_aux_lemma =>
                   rw [if_pos c49] at H
                   have c49b0 : decide (0 ≤ x115_2) = true := decide_eq_true c49
                   clear c49
                   by_cases c50 : x115_2 < (t443.length : Int)
                   ·as_aux_lemma =>
                     rw [if_pos c50] at H
                     have c50b0 : decide (x115_2 < (t443.length : Int)) = true := decide_eq_true c50
                     clear c50
                     replace H := Option.bind_eq_some_iff.mp H
                     obtain ⟨⟨t464, t465⟩, A510, H⟩ := H
                     replace H : ((impl_FewestPairMoves.f k2 t441 (rdOf ByteArray.empty t443 x115_2)).bind fun bt466 => (if t465 = true then (if t464 ≤ x17_2 then (some false) else (if bt466.2 = true then (if bt466.1 > t442 then (some false) else (laws_FnPairsNear.l0 k2 l1 t441 t442 t443 t451 t452 t453 t464 t443 (t443.length : Int) (wrap64 (x115_2 + 1)))) else (some false))) else (some false))) = some r := H
                     have A51 := aM A510
                     clear A510
                     replace H := Option.bind_eq_some_iff.mp H
                     obtain ⟨⟨t466, t467⟩, A520, H⟩ := H
                     replace H : (if t465 = true then (if t464 ≤ x17_2 then (some false) else (if t467 = true then (if t466 > t442 then (some false) else (laws_FnPairsNear.l0 k2 l1 t441 t442 t443 t451 t452 t453 t464 t443 (t443.length : Int) (wrap64 (x115_2 + 1)))) else (some false))) else (some false)) = some r := H
                     have A52 := aM A520
                     clear A520
                     by_cases c53 : t465 = true
                     ·as_aux_lemma =>
                       subst c53
                       have H1 : (if t464 ≤ x17_2 then (some false) else (if t467 = true then (if t466 > t442 then (some false) else (laws_FnPairsNear.l0 k2 l1 t441 t442 t443 t451 t452 t453 t464 t443 (t443.length : Int) (wrap64 (x115_2 + 1)))) else (some false))) = some r := by rw [if_pos rfl] at H; exact H
                       clear H; have H := H1; clear H1
                       by_cases c54 : t464 ≤ x17_2
                       ·rw [if_pos c54] at H
                        have c54b0 : decide (t464 ≤ x17_2) = true := decide_eq_true c54
                        clear c54
                        obtain rfl := Option.some.inj H
                        have p463 : 0 ≤ (x115_2 : Int) := of_decide_eq_true (by first | (with_reducible assumption) | assumption)
                        have q463 : x115_2 < (t443.length : Int) := of_decide_eq_true (by first | (with_reducible assumption) | assumption)
                        obtain ⟨ad463, e463, hx463_0⟩ := Kd.at_string (Kd.R_reads' HO_113.out).2.2 x115_2 p463 q463
                        cases e463
                        replace p463 := eq_true p463
                        replace q463 := eq_true q463
                        go_wp2_with (first | ((with_reducible refine gate_callee (f := 11) rfl ?_); refine goesL_ (some 121) rfl rfl Tryz.func11 (by kernel_rfl) rfl #[.string (rdOf ByteArray.empty t443 x115_2)] rfl (by (try simp only [List.map_toArray, List.map_cons, List.map_nil]); first | done | rfl | (simp only [List.length_drop, List.length_take]; rfl)) ?_; (with_reducible refine (impl_NumberOfState.calls k2 (rdOf ByteArray.empty t443 x115_2) t464 true _ A51.out).mono ?_); rintro e w55 ⟨rfl, hb⟩; refine ⟨_, rfl, ?_⟩; have n0_ := aM (Kd.R_below (by (with_reducible repeat (first | apply rA | apply rN | apply rD)); exact HO_7.out) hb); have n1_ := aM (Kd.R_below (by (with_reducible repeat (first | apply rA | apply rN | apply rD)); exact HO_11.out) hb); have n2_ := aM (Kd.R_below (by (with_reducible repeat (first | apply rA | apply rN | apply rD)); exact HO_113.out) hb); have n3_ := aM (below_step (by repeat (first | (with_reducible first | exact HB.out | apply bA | apply bN | apply bD) | exact HB.out)) hb); clear HO_7; clear HO_11; clear HO_113; clear HB; have HO_7 := n0_; have HO_11 := n1_; have HO_113 := n2_; have HB := n3_; clear n0_ n1_ n2_ n3_; (try clear hb); (try clear hb2); (try clear hk); (try clear hi)) | ((with_reducible refine gate_callee (f := 12) rfl ?_); refine goesL_ (some 127) rfl rfl Tryz.func12 (by kernel_rfl) rfl #[.string t441, .string (rdOf ByteArray.empty t443 x115_2)] rfl (by (try simp only [List.map_toArray, List.map_cons, List.map_nil]); first | done | rfl | (simp only [List.length_drop, List.length_take]; rfl)) ?_; (with_reducible refine (impl_FewestPairMoves.calls k2 t441 (rdOf ByteArray.empty t443 x115_2) t466 t467 _ A52.out).mono ?_); rintro e w56 ⟨rfl, hb⟩; refine ⟨_, rfl, ?_⟩; have n0_ := aM (Kd.R_below (by (with_reducible repeat (first | apply rA | apply rN | apply rD)); exact HO_7.out) hb); have n1_ := aM (Kd.R_below (by (with_reducible repeat (first | apply rA | apply rN | apply rD)); exact HO_11.out) hb); have n2_ := aM (Kd.R_below (by (with_reducible repeat (first | apply rA | apply rN | apply rD)); exact HO_113.out) hb); have n3_ := aM (below_step (by repeat (first | (with_reducible first | exact HB.out | apply bA | apply bN | apply bD) | exact HB.out)) hb); clear HO_7; clear HO_11; clear HO_113; clear HB; have HO_7 := n0_; have HO_11 := n1_; have HO_113 := n2_; have HB := n3_; clear n0_ n1_ n2_ n3_; (try clear hb); (try clear hb2); (try clear hk); (try clear hi)))
                        go_ret
                        exact ⟨by first | rfl | (simp [errW_none, errW_some] <;> rfl) | (simp [*, errW_none, errW_some] <;> rfl), by repeat (first | (with_reducible first | exact HB.out | apply bA | apply bN | apply bD) | exact HB.out)⟩
                       ·rw [if_neg c54] at H
                        have c54b0 : decide (t464 ≤ x17_2) = false := decide_eq_false c54
                        clear c54
                        by_cases c57 : t467 = true
                        ·subst c57
                         have H1 : (if t466 > t442 then (some false) else (laws_FnPairsNear.l0 k2 l1 t441 t442 t443 t451 t452 t453 t464 t443 (t443.length : Int) (wrap64 (x115_2 + 1)))) = some r := by rw [if_pos rfl] at H; exact H
                         clear H; have H := H1; clear H1
                         by_cases c58 : t466 > t442
                         ·rw [if_pos c58] at H
                          have c58b0 : decide (t442 < t466) = true := decide_eq_true c58
                          clear c58
                          obtain rfl := Option.some.inj H
                          have p463 : 0 ≤ (x115_2 : Int) := of_decide_eq_true (by first | (with_reducible assumption) | assumption)
                          have q463 : x115_2 < (t443.length : Int) := of_decide_eq_true (by first | (with_reducible assumption) | assumption)
                          obtain ⟨ad463, e463, hx463_0⟩ := Kd.at_string (Kd.R_reads' HO_113.out).2.2 x115_2 p463 q463
                          cases e463
                          replace p463 := eq_true p463
                          replace q463 := eq_true q463
                          go_wp2_with (first | ((with_reducible refine gate_callee (f := 11) rfl ?_); refine goesL_ (some 121) rfl rfl Tryz.func11 (by kernel_rfl) rfl #[.string (rdOf ByteArray.empty t443 x115_2)] rfl (by (try simp only [List.map_toArray, List.map_cons, List.map_nil]); first | done | rfl | (simp only [List.length_drop, List.length_take]; rfl)) ?_; (with_reducible refine (impl_NumberOfState.calls k2 (rdOf ByteArray.empty t443 x115_2) t464 true _ A51.out).mono ?_); rintro e w59 ⟨rfl, hb⟩; refine ⟨_, rfl, ?_⟩; have n0_ := aM (Kd.R_below (by (with_reducible repeat (first | apply rA | apply rN | apply rD)); exact HO_7.out) hb); have n1_ := aM (Kd.R_below (by (with_reducible repeat (first | apply rA | apply rN | apply rD)); exact HO_11.out) hb); have n2_ := aM (Kd.R_below (by (with_reducible repeat (first | apply rA | apply rN | apply rD)); exact HO_113.out) hb); have n3_ := aM (below_step (by repeat (first | (with_reducible first | exact HB.out | apply bA | apply bN | apply bD) | exact HB.out)) hb); clear HO_7; clear HO_11; clear HO_113; clear HB; have HO_7 := n0_; have HO_11 := n1_; have HO_113 := n2_; have HB := n3_; clear n0_ n1_ n2_ n3_; (try clear hb); (try clear hb2); (try clear hk); (try clear hi)) | ((with_reducible refine gate_callee (f := 12) rfl ?_); refine goesL_ (some 127) rfl rfl Tryz.func12 (by kernel_rfl) rfl #[.string t441, .string (rdOf ByteArray.empty t443 x115_2)] rfl (by (try simp only [List.map_toArray, List.map_cons, List.map_nil]); first | done | rfl | (simp only [List.length_drop, List.length_take]; rfl)) ?_; (with_reducible refine (impl_FewestPairMoves.calls k2 t441 (rdOf ByteArray.empty t443 x115_2) t466 true _ A52.out).mono ?_); rintro e w60 ⟨rfl, hb⟩; refine ⟨_, rfl, ?_⟩; have n0_ := aM (Kd.R_below (by (with_reducible repeat (first | apply rA | apply rN | apply rD)); exact HO_7.out) hb); have n1_ := aM (Kd.R_below (by (with_reducible repeat (first | apply rA | apply rN | apply rD)); exact HO_11.out) hb); have n2_ := aM (Kd.R_below (by (with_reducible repeat (first | apply rA | apply rN | apply rD)); exact HO_113.out) hb); have n3_ := aM (below_step (by repeat (first | (with_reducible first | exact HB.out | apply bA | apply bN | apply bD) | exact HB.out)) hb); clear HO_7; clear HO_11; clear HO_113; clear HB; have HO_7 := n0_; have HO_11 := n1_; have HO_113 := n2_; have HB := n3_; clear n0_ n1_ n2_ n3_; (try clear hb); (try clear hb2); (try clear hk); (try clear hi)))
                          go_ret
                          exact ⟨by first | rfl | (simp [errW_none, errW_some] <;> rfl) | (simp [*, errW_none, errW_some] <;> rfl), by repeat (first | (with_reducible first | exact HB.out | apply bA | apply bN | apply bD) | exact HB.out)⟩
                         ·rw [if_neg c58] at H
                          have c58b0 : decide (t442 < t466) = false := decide_eq_false c58
                          clear c58
                          have H' := aM H
                          clear H
                          have p463 : 0 ≤ (x115_2 : Int) := of_decide_eq_true (by first | (with_reducible assumption) | assumption)
                          have q463 : x115_2 < (t443.length : Int) := of_decide_eq_true (by first | (with_reducible assumption) | assumption)
                          obtain ⟨ad463, e463, hx463_0⟩ := Kd.at_string (Kd.R_reads' HO_113.out).2.2 x115_2 p463 q463
                          cases e463
                          replace p463 := eq_true p463
                          replace q463 := eq_true q463
                          go_wp2_with (first | ((with_reducible refine gate_callee (f := 11) rfl ?_); refine goesL_ (some 121) rfl rfl Tryz.func11 (by kernel_rfl) rfl #[.string (rdOf ByteArray.empty t443 x115_2)] rfl (by (try simp only [List.map_toArray, List.map_cons, List.map_nil]); first | done | rfl | (simp only [List.length_drop, List.length_take]; rfl)) ?_; (with_reducible refine (impl_NumberOfState.calls k2 (rdOf ByteArray.empty t443 x115_2) t464 true _ A51.out).mono ?_); rintro e w61 ⟨rfl, hb⟩; refine ⟨_, rfl, ?_⟩; have n0_ := aM (Kd.R_below (by (with_reducible repeat (first | apply rA | apply rN | apply rD)); exact HO_7.out) hb); have n1_ := aM (Kd.R_below (by (with_reducible repeat (first | apply rA | apply rN | apply rD)); exact HO_11.out) hb); have n2_ := aM (Kd.R_below (by (with_reducible repeat (first | apply rA | apply rN | apply rD)); exact HO_113.out) hb); have n3_ := aM (below_step (by repeat (first | (with_reducible first | exact HB.out | apply bA | apply bN | apply bD) | exact HB.out)) hb); clear HO_7; clear HO_11; clear HO_113; clear HB; have HO_7 := n0_; have HO_11 := n1_; have HO_113 := n2_; have HB := n3_; clear n0_ n1_ n2_ n3_; (try clear hb); (try clear hb2); (try clear hk); (try clear hi)) | ((with_reducible refine gate_callee (f := 12) rfl ?_); refine goesL_ (some 127) rfl rfl Tryz.func12 (by kernel_rfl) rfl #[.string t441, .string (rdOf ByteArray.empty t443 x115_2)] rfl (by (try simp only [List.map_toArray, List.map_cons, List.map_nil]); first | done | rfl | (simp only [List.length_drop, List.length_take]; rfl)) ?_; (with_reducible refine (impl_FewestPairMoves.calls k2 t441 (rdOf ByteArray.empty t443 x115_2) t466 true _ A52.out).mono ?_); rintro e w62 ⟨rfl, hb⟩; refine ⟨_, rfl, ?_⟩; have n0_ := aM (Kd.R_below (by (with_reducible repeat (first | apply rA | apply rN | apply rD)); exact HO_7.out) hb); have n1_ := aM (Kd.R_below (by (with_reducible repeat (first | apply rA | apply rN | apply rD)); exact HO_11.out) hb); have n2_ := aM (Kd.R_below (by (with_reducible repeat (first | apply rA | apply rN | apply rD)); exact HO_113.out) hb); have n3_ := aM (below_step (by repeat (first | (with_reducible first | exact HB.out | apply bA | apply bN | apply bD) | exact HB.out)) hb); clear HO_7; clear HO_11; clear HO_113; clear HB; have HO_7 := n0_; have HO_11 := n1_; have HO_113 := n2_; have HB := n3_; clear n0_ n1_ n2_ n3_; (try clear hb); (try clear hb2); (try clear hk); (try clear hi)))
                          go_roundg k2
                          case measure => have := HJ9.out; have := HK2.out; omega
                          case rel => exact ⟨(t464), (wrap64 (x115_2 + 1)), (by first | rfl | (simp; done) | (simp [*]; done)), (by first | rfl | (simp; done) | (simp [*]; done)), H', ⟨by have := HJ9.out; have := HK2.out; omega⟩, ⟨by (with_reducible repeat (first | apply rA | apply rN | apply rD)); exact HO_7.out⟩, ⟨by (with_reducible repeat (first | apply rA | apply rN | apply rD)); exact HO_11.out⟩, ⟨by (with_reducible repeat (first | apply rA | apply rN | apply rD)); exact HO_113.out⟩, ⟨by repeat (first | (with_reducible first | exact HB.out | apply bA | apply bN | apply bD) | exact HB.out)⟩⟩
                        ·replace c57 := Bool.eq_false_iff.mpr c57
                         subst c57
                         have H1 : (some false) = some r := by rw [if_neg (show ¬ (false = true) by decide)] at H; exact H
                         clear H; have H := H1; clear H1
                         obtain rfl := Option.some.inj H
                         have p463 : 0 ≤ (x115_2 : Int) := of_decide_eq_true (by first | (with_reducible assumption) | assumption)
                         have q463 : x115_2 < (t443.length : Int) := of_decide_eq_true (by first | (with_reducible assumption) | assumption)
                         obtain ⟨ad463, e463, hx463_0⟩ := Kd.at_string (Kd.R_reads' HO_113.out).2.2 x115_2 p463 q463
                         cases e463
                         replace p463 := eq_true p463
                         replace q463 := eq_true q463
                         go_wp2_with (first | ((with_reducible refine gate_callee (f := 11) rfl ?_); refine goesL_ (some 121) rfl rfl Tryz.func11 (by kernel_rfl) rfl #[.string (rdOf ByteArray.empty t443 x115_2)] rfl (by (try simp only [List.map_toArray, List.map_cons, List.map_nil]); first | done | rfl | (simp only [List.length_drop, List.length_take]; rfl)) ?_; (with_reducible refine (impl_NumberOfState.calls k2 (rdOf ByteArray.empty t443 x115_2) t464 true _ A51.out).mono ?_); rintro e w63 ⟨rfl, hb⟩; refine ⟨_, rfl, ?_⟩; have n0_ := aM (Kd.R_below (by (with_reducible repeat (first | apply rA | apply rN | apply rD)); exact HO_7.out) hb); have n1_ := aM (Kd.R_below (by (with_reducible repeat (first | apply rA | apply rN | apply rD)); exact HO_11.out) hb); have n2_ := aM (Kd.R_below (by (with_reducible repeat (first | apply rA | apply rN | apply rD)); exact HO_113.out) hb); have n3_ := aM (below_step (by repeat (first | (with_reducible first | exact HB.out | apply bA | apply bN | apply bD) | exact HB.out)) hb); clear HO_7; clear HO_11; clear HO_113; clear HB; have HO_7 := n0_; have HO_11 := n1_; have HO_113 := n2_; have HB := n3_; clear n0_ n1_ n2_ n3_; (try clear hb); (try clear hb2); (try clear hk); (try clear hi)) | ((with_reducible refine gate_callee (f := 12) rfl ?_); refine goesL_ (some 127) rfl rfl Tryz.func12 (by kernel_rfl) rfl #[.string t441, .string (rdOf ByteArray.empty t443 x115_2)] rfl (by (try simp only [List.map_toArray, List.map_cons, List.map_nil]); first | done | rfl | (simp only [List.length_drop, List.length_take]; rfl)) ?_; (with_reducible refine (impl_FewestPairMoves.calls k2 t441 (rdOf ByteArray.empty t443 x115_2) t466 false _ A52.out).mono ?_); rintro e w64 ⟨rfl, hb⟩; refine ⟨_, rfl, ?_⟩; have n0_ := aM (Kd.R_below (by (with_reducible repeat (first | apply rA | apply rN | apply rD)); exact HO_7.out) hb); have n1_ := aM (Kd.R_below (by (with_reducible repeat (first | apply rA | apply rN | apply rD)); exact HO_11.out) hb); have n2_ := aM (Kd.R_below (by (with_reducible repeat (first | apply rA | apply rN | apply rD)); exact HO_113.out) hb); have n3_ := aM (below_step (by repeat (first | (with_reducible first | exact HB.out | apply bA | apply bN | apply bD) | exact HB.out)) hb); clear HO_7; clear HO_11; clear HO_113; clear HB; have HO_7 := n0_; have HO_11 := n1_; have HO_113 := n2_; have HB := n3_; clear n0_ n1_ n2_ n3_; (try clear hb); (try clear hb2); (try clear hk); (try clear hi)))
                         go_ret
                         exact ⟨by first | rfl | (simp [errW_none, errW_some] <;> rfl) | (simp [*, errW_none, errW_some] <;> rfl), by repeat (first | (with_reducible first | exact HB.out | apply bA | apply bN | apply bD) | exact HB.out)⟩
                     ·replace c53 := Bool.eq_false_iff.mpr c53
                      subst c53
                      have H1 : (some false) = some r := by rw [if_neg (show ¬ (false = true) by decide)] at H; exact H
                      clear H; have H := H1; clear H1
                      obtain rfl := Option.some.inj H
                      have p463 : 0 ≤ (x115_2 : Int) := of_decide_eq_true (by first | (with_reducible assumption) | assumption)
                      have q463 : x115_2 < (t443.length : Int) := of_decide_eq_true (by first | (with_reducible assumption) | assumption)
                      obtain ⟨ad463, e463, hx463_0⟩ := Kd.at_string (Kd.R_reads' HO_113.out).2.2 x115_2 p463 q463
                      cases e463
                      replace p463 := eq_true p463
                      replace q463 := eq_true q463
                      go_wp2_with (first | ((with_reducible refine gate_callee (f := 11) rfl ?_); refine goesL_ (some 121) rfl rfl Tryz.func11 (by kernel_rfl) rfl #[.string (rdOf ByteArray.empty t443 x115_2)] rfl (by (try simp only [List.map_toArray, List.map_cons, List.map_nil]); first | done | rfl | (simp only [List.length_drop, List.length_take]; rfl)) ?_; (with_reducible refine (impl_NumberOfState.calls k2 (rdOf ByteArray.empty t443 x115_2) t464 false _ A51.out).mono ?_); rintro e w65 ⟨rfl, hb⟩; refine ⟨_, rfl, ?_⟩; have n0_ := aM (Kd.R_below (by (with_reducible repeat (first | apply rA | apply rN | apply rD)); exact HO_7.out) hb); have n1_ := aM (Kd.R_below (by (with_reducible repeat (first | apply rA | apply rN | apply rD)); exact HO_11.out) hb); have n2_ := aM (Kd.R_below (by (with_reducible repeat (first | apply rA | apply rN | apply rD)); exact HO_113.out) hb); have n3_ := aM (below_step (by repeat (first | (with_reducible first | exact HB.out | apply bA | apply bN | apply bD) | exact HB.out)) hb); clear HO_7; clear HO_11; clear HO_113; clear HB; have HO_7 := n0_; have HO_11 := n1_; have HO_113 := n2_; have HB := n3_; clear n0_ n1_ n2_ n3_; (try clear hb); (try clear hb2); (try clear hk); (try clear hi)) | ((with_reducible refine gate_callee (f := 12) rfl ?_); refine goesL_ (some 127) rfl rfl Tryz.func12 (by kernel_rfl) rfl #[.string t441, .string (rdOf ByteArray.empty t443 x115_2)] rfl (by (try simp only [List.map_toArray, List.map_cons, List.map_nil]); first | done | rfl | (simp only [List.length_drop, List.length_take]; rfl)) ?_; (with_reducible refine (impl_FewestPairMoves.calls k2 t441 (rdOf ByteArray.empty t443 x115_2) t466 t467 _ A52.out).mono ?_); rintro e w66 ⟨rfl, hb⟩; refine ⟨_, rfl, ?_⟩; have n0_ := aM (Kd.R_below (by (with_reducible repeat (first | apply rA | apply rN | apply rD)); exact HO_7.out) hb); have n1_ := aM (Kd.R_below (by (with_reducible repeat (first | apply rA | apply rN | apply rD)); exact HO_11.out) hb); have n2_ := aM (Kd.R_below (by (with_reducible repeat (first | apply rA | apply rN | apply rD)); exact HO_113.out) hb); have n3_ := aM (below_step (by repeat (first | (with_reducible first | exact HB.out | apply bA | apply bN | apply bD) | exact HB.out)) hb); clear HO_7; clear HO_11; clear HO_113; clear HB; have HO_7 := n0_; have HO_11 := n1_; have HO_113 := n2_; have HB := n3_; clear n0_ n1_ n2_ n3_; (try clear hb); (try clear hb2); (try clear hk); (try clear hi)))
                      go_ret
                      exact ⟨by first | rfl | (simp [errW_none, errW_some] <;> rfl) | (simp [*, errW_none, errW_some] <;> rfl), by repeat (first | (with_reducible first | exact HB.out | apply bA | apply bN | apply bD) | exact HB.out)⟩
                   ·rw [if_neg c50] at H
                    exact absurd H (by simp)
                 ·rw [if_neg c49] at H
                  exact absurd H (by simp)
               ·as_aux_lemma =>
                 rw [if_neg c48] at H
                 have c48b0 : decide (x115_2 < (t443.length : Int)) = false := decide_eq_false c48
                 clear c48
                 (first | rw [c48b0] | (simp only [i64_w, i32_w]; rw [c48b0]) | skip)
                 have HC67 := aM H
                 clear H
                 go_upto_region 21 with (fail)
                 go_cut [160] (fun v160 wc => ∃ (kq : Nat) (x160_66 : Bool), v160 = .bool x160_66 ∧ Aside0 (laws_FnPairsNear.j2 kq l1 t441 t442 t443 t451 t452 t453 x160_66 = some r) ∧ Aside0 (kq ≤ k2) ∧ Aside0 (Kd.R Kd.string 9 wc w.heap.size (fun k_ => some k_ ≠ (v454 : Value).ownBlock) (.slice Ao47 t443.length co47) t443) ∧ Aside0 (Kd.R Kd.string 9 wc w.heap.size (fun k_ => some k_ ≠ ((.slice Ao47 t443.length co47) : Value).ownBlock) v454 t451) ∧ Aside0 (Below w.heap.size w wc))
                 case first =>
                  as_aux_lemma =>
                   have H := HC67.out
                   clear HC67
                   replace H := Option.bind_eq_some_iff.mp H
                   obtain ⟨t468, A680, H⟩ := H
                   replace H : (if t468 = true then (if t442 = 0 then (laws_FnPairsNear.j2 k2 l1 t441 t442 t443 t451 t452 t453 ((t443.length : Int) != 1)) else (laws_FnPairsNear.j2 k2 l1 t441 t442 t443 t451 t452 t453 false)) else (laws_FnPairsNear.j2 k2 l1 t441 t442 t443 t451 t452 t453 true)) = some r := H
                   have A68 := aM A680
                   clear A680
                   by_cases c69 : t468 = true
                   ·subst c69
                    have H1 : (if t442 = 0 then (laws_FnPairsNear.j2 k2 l1 t441 t442 t443 t451 t452 t453 ((t443.length : Int) != 1)) else (laws_FnPairsNear.j2 k2 l1 t441 t442 t443 t451 t452 t453 false)) = some r := by rw [if_pos rfl] at H; exact H
                    clear H; have H := H1; clear H1
                    by_cases c70 : t442 = 0
                    ·rw [if_pos c70] at H
                     have c70b0 : (t442 == 0) = true := beq_iff_eq.mpr c70
                     have c70b1 : (t442 != 0) = false := bne_eq_false_iff_eq.mpr c70
                     clear c70
                     (first | rw [c70b0] | (simp only [i64_w, i32_w]; rw [c70b0]) | skip)
                     have H' := aM H
                     clear H
                     go_wp2_with (first | ((with_reducible refine gate_callee (f := 13) rfl ?_); refine goesL_ (some 150) rfl rfl Tryz.func13 (by kernel_rfl) rfl #[.slice Ao47 t443.length co47, .string t441] rfl (by (try simp only [List.map_toArray, List.map_cons, List.map_nil]); first | done | rfl | (simp only [List.length_drop, List.length_take]; rfl)) ?_; (with_reducible refine (laws_yText.calls k2 _ _ t443 t441 true _ ?side1 ?side2 A68.out).mono ?_); (case side1 => repeat (first | exact (Kd.R_reads' HO_7.out).2.2 | (with_reducible refine cA ?_ _) | (with_reducible refine cN ?_ _) | (with_reducible refine cD ?_))); (case side2 => exact (Kd.R_reads' HO_7.out).2.1); rintro e w' ⟨rfl, ⟨nd, rfl⟩⟩; refine ⟨_, rfl, ?_⟩))
                     go_meet
                     case rel => exact ⟨_, (((t443.length : Int) != 1)), (by first | rfl | (simp; done) | (simp [*]; done)), H', ⟨by have := HJ9.out; have := HK2.out; first | omega | exact Nat.le_refl _⟩, ⟨by (with_reducible repeat (first | apply rA | apply rN | apply rD)); exact HO_7.out⟩, ⟨by (with_reducible repeat (first | apply rA | apply rN | apply rD)); exact Kd.R_mono HO_11.out (fun _ hk => hk.1)⟩, ⟨by repeat (first | (with_reducible first | exact HB.out | apply bA | apply bN | apply bD) | exact HB.out)⟩⟩
                    ·rw [if_neg c70] at H
                     have c70b0 : (t442 == 0) = false := beq_eq_false_iff_ne.mpr c70
                     have c70b1 : (t442 != 0) = true := bne_iff_ne.mpr c70
                     (first | rw [c70b0] | (simp only [i64_w, i32_w]; rw [c70b0]) | skip)
                     have H' := aM H
                     clear H
                     go_wp2_with (first | ((with_reducible refine gate_callee (f := 13) rfl ?_); refine goesL_ (some 150) rfl rfl Tryz.func13 (by kernel_rfl) rfl #[.slice Ao47 t443.length co47, .string t441] rfl (by (try simp only [List.map_toArray, List.map_cons, List.map_nil]); first | done | rfl | (simp only [List.length_drop, List.length_take]; rfl)) ?_; (with_reducible refine (laws_yText.calls k2 _ _ t443 t441 true _ ?side1 ?side2 A68.out).mono ?_); (case side1 => repeat (first | exact (Kd.R_reads' HO_7.out).2.2 | (with_reducible refine cA ?_ _) | (with_reducible refine cN ?_ _) | (with_reducible refine cD ?_))); (case side2 => exact (Kd.R_reads' HO_7.out).2.1); rintro e w' ⟨rfl, ⟨nd, rfl⟩⟩; refine ⟨_, rfl, ?_⟩))
                     go_meet
                     case rel => exact ⟨_, (false), (by first | rfl | (simp; done) | (simp [*]; done)), H', ⟨by have := HJ9.out; have := HK2.out; first | omega | exact Nat.le_refl _⟩, ⟨by (with_reducible repeat (first | apply rA | apply rN | apply rD)); exact HO_7.out⟩, ⟨by (with_reducible repeat (first | apply rA | apply rN | apply rD)); exact Kd.R_mono HO_11.out (fun _ hk => hk.1)⟩, ⟨by repeat (first | (with_reducible first | exact HB.out | apply bA | apply bN | apply bD) | exact HB.out)⟩⟩
                   ·replace c69 := Bool.eq_false_iff.mpr c69
                    subst c69
                    have H1 : (laws_FnPairsNear.j2 k2 l1 t441 t442 t443 t451 t452 t453 true) = some r := by rw [if_neg (show ¬ (false = true) by decide)] at H; exact H
                    clear H; have H := H1; clear H1
                    have H' := aM H
                    clear H
                    go_wp2_with (first | ((with_reducible refine gate_callee (f := 13) rfl ?_); refine goesL_ (some 150) rfl rfl Tryz.func13 (by kernel_rfl) rfl #[.slice Ao47 t443.length co47, .string t441] rfl (by (try simp only [List.map_toArray, List.map_cons, List.map_nil]); first | done | rfl | (simp only [List.length_drop, List.length_take]; rfl)) ?_; (with_reducible refine (laws_yText.calls k2 _ _ t443 t441 false _ ?side1 ?side2 A68.out).mono ?_); (case side1 => repeat (first | exact (Kd.R_reads' HO_7.out).2.2 | (with_reducible refine cA ?_ _) | (with_reducible refine cN ?_ _) | (with_reducible refine cD ?_))); (case side2 => exact (Kd.R_reads' HO_7.out).2.1); rintro e w' ⟨rfl, ⟨nd, rfl⟩⟩; refine ⟨_, rfl, ?_⟩))
                    go_meet
                    case rel => exact ⟨_, (true), (by first | rfl | (simp; done) | (simp [*]; done)), H', ⟨by have := HJ9.out; have := HK2.out; first | omega | exact Nat.le_refl _⟩, ⟨by (with_reducible repeat (first | apply rA | apply rN | apply rD)); exact HO_7.out⟩, ⟨by (with_reducible repeat (first | apply rA | apply rN | apply rD)); exact Kd.R_mono HO_11.out (fun _ hk => hk.1)⟩, ⟨by repeat (first | (with_reducible first | exact HB.out | apply bA | apply bN | apply bD) | exact HB.out)⟩⟩
                 case rest =>
                  as_aux_lemma =>
                   clear HC67
                   try clear c1
                   try clear c2
                   try clear p2
                   try clear c3
                   try clear c4
                   try clear p4
                   try clear q4
                   try clear hx4
                   try clear c5
                   try clear c6
                   try clear p6
                   try clear c7
                   try clear c8
                   try clear c9
                   try clear c11
                   try clear c12
                   try clear c13
                   try clear c16
                   try clear c16b0
                   try clear c16b1
                   try clear c16b2
                   try clear c18
                   try clear c19
                   try clear c19b0
                   try clear c19b1
                   try clear c19b2
                   try clear c23
                   try clear c24
                   try clear c24b0
                   try clear c24b1
                   try clear c25
                   try clear c44
                   try clear c46
                   try clear p46
                   try clear q46
                   try clear hx46
                   try clear c48
                   try clear c48b0
                   try clear c49
                   try clear c49b0
                   try clear c50
                   try clear c50b0
                   try clear c53
                   try clear c54
                   try clear c54b0
                   try clear c57
                   try clear c58
                   try clear c58b0
                   try clear p64
                   try clear c69
                   try clear c70
                   try clear c70b0
                   try clear c70b1
                   try clear hx463_0
                   try clear p2
                   try clear p463
                   try clear q463
                   obtain ⟨kq, x160_66, rfl, HA, HJ66, HO_7, HO_11, HB⟩ := hcut
                   cases kq with
                   | zero => exact absurd HA.out (by simp [laws_FnPairsNear.j2])
                   | succ kj66 =>
                    have H := HA.out
                    clear HA
                    simp only [laws_FnPairsNear.j2] at H
                    by_cases c71 : x160_66 = true
                    ·subst c71
                     have H1 : (some false) = some r := by rw [if_pos rfl] at H; exact H
                     clear H; have H := H1; clear H1
                     obtain rfl := Option.some.inj H
                     go_wp2
                     go_ret
                     exact ⟨by first | rfl | (simp [errW_none, errW_some] <;> rfl) | (simp [*, errW_none, errW_some] <;> rfl), by repeat (first | (with_reducible first | exact HB.out | apply bA | apply bN | apply bD) | exact HB.out)⟩
                    ·as_aux_lemma =>
                      replace c71 := Bool.eq_false_iff.mpr c71
                      subst c71
                      have H1 : (if t442 > 0 then ((impl_NearByPairs.f kj66 t441 (wrap64 (t442 - 1))).bind fun bt469 => (if bt469.2 = true then (if (bt469.1.length : Int) > (t443.length : Int) then (some false) else (if t442 ≤ t452 then (if (bt469.1.length : Int) = (t443.length : Int) then (some false) else (laws_FnPairsNear.j3 kj66 l1 t441 t451 t452 t453)) else (laws_FnPairsNear.j3 kj66 l1 t441 t451 t452 t453))) else (some false))) else (laws_FnPairsNear.j3 kj66 l1 t441 t451 t452 t453)) = some r := by rw [if_neg (show ¬ (false = true) by decide)] at H; exact H
                      clear H; have H := H1; clear H1
                      by_cases c72 : t442 > 0
                      ·as_aux_lemma =>
                        rw [if_pos c72] at H
                        have c72b0 : decide (0 < t442) = true := decide_eq_true c72
                        clear c72
                        replace H := Option.bind_eq_some_iff.mp H
                        obtain ⟨⟨t469, t470⟩, A730, H⟩ := H
                        replace H : (if t470 = true then (if (t469.length : Int) > (t443.length : Int) then (some false) else (if t442 ≤ t452 then (if (t469.length : Int) = (t443.length : Int) then (some false) else (laws_FnPairsNear.j3 kj66 l1 t441 t451 t452 t453)) else (laws_FnPairsNear.j3 kj66 l1 t441 t451 t452 t453))) else (some false)) = some r := H
                        have A73 := aM A730
                        clear A730
                        by_cases c74 : t470 = true
                        ·subst c74
                         have H1 : (if (t469.length : Int) > (t443.length : Int) then (some false) else (if t442 ≤ t452 then (if (t469.length : Int) = (t443.length : Int) then (some false) else (laws_FnPairsNear.j3 kj66 l1 t441 t451 t452 t453)) else (laws_FnPairsNear.j3 kj66 l1 t441 t451 t452 t453))) = some r := by rw [if_pos rfl] at H; exact H
                         clear H; have H := H1; clear H1
                         by_cases c75 : (t469.length : Int) > (t443.length : Int)
                         ·rw [if_pos c75] at H
                          have c75b0 : decide ((t443.length : Int) < (t469.length : Int)) = true := decide_eq_true c75
                          have c75b1 : decide (t443.length < t469.length) = true := decide_eq_true (Int.ofNat_lt.mp c75)
                          clear c75
                          obtain rfl := Option.some.inj H
                          go_wp2_with (first | ((with_reducible refine gate_callee (f := 6) rfl ?_); refine goesL_ (some 167) rfl rfl Tryz.func6 (by kernel_rfl) rfl #[.string t441, .int .i64 (wrap64 (t442 - 1))] rfl (by (try simp only [List.map_toArray, List.map_cons, List.map_nil]); first | done | rfl | (simp only [List.length_drop, List.length_take]; rfl)) ?_; (with_reducible refine (impl_NearByPairs.calls kj66 t441 (wrap64 (t442 - 1)) t469 true _ A73.out).mono ?_); rintro e w76 ⟨v471, rfl, ho0, hb⟩; refine ⟨_, rfl, ?_⟩; have n0_ := aM (Kd.R_elder' (by (with_reducible repeat (first | apply rA | apply rN | apply rD)); exact HO_7.out) (Kd.R_base ho0) hb); have n1_ := aM (Kd.R_elder' (by (with_reducible repeat (first | apply rA | apply rN | apply rD)); exact HO_11.out) (Kd.R_base ho0) hb); have n2_ := aM (Kd.R_lower (Kd.R_new' (Kd.R_new' ho0 (Kd.R_lt (by (with_reducible repeat (first | apply rA | apply rN | apply rD)); exact HO_7.out))) (Kd.R_lt (by (with_reducible repeat (first | apply rA | apply rN | apply rD)); exact HO_11.out))) (below_size (by repeat (first | (with_reducible first | exact HB.out | apply bA | apply bN | apply bD) | exact HB.out)))); have n3_ := aM (below_step (by repeat (first | (with_reducible first | exact HB.out | apply bA | apply bN | apply bD) | exact HB.out)) hb); clear HO_7; clear HO_11; clear HB; have HO_7 := n0_; have HO_11 := n1_; have HO472 := n2_; have HB := n3_; clear n0_ n1_ n2_ n3_; (try clear hb); (try clear hb2); (try clear hk); (try clear hi); (try clear ho0); obtain ⟨Ao77, co77, eo77⟩ := Kd.R_slice HO472.out; subst eo77))
                          go_ret
                          exact ⟨by first | rfl | (simp [errW_none, errW_some] <;> rfl) | (simp [*, errW_none, errW_some] <;> rfl), by repeat (first | (with_reducible first | exact HB.out | apply bA | apply bN | apply bD) | exact HB.out)⟩
                         ·rw [if_neg c75] at H
                          have c75b0 : decide ((t443.length : Int) < (t469.length : Int)) = false := decide_eq_false c75
                          have c75b1 : decide (t443.length < t469.length) = false := decide_eq_false (fun h => c75 (Int.ofNat_lt.mpr h))
                          clear c75
                          by_cases c78 : t442 ≤ t452
                          ·rw [if_pos c78] at H
                           have c78b0 : decide (t442 ≤ t452) = true := decide_eq_true c78
                           clear c78
                           by_cases c79 : (t469.length : Int) = (t443.length : Int)
                           ·rw [if_pos c79] at H
                            have c79b0 : ((t469.length : Int) == (t443.length : Int)) = true := beq_iff_eq.mpr c79
                            have c79b1 : ((t469.length : Int) != (t443.length : Int)) = false := bne_eq_false_iff_eq.mpr c79
                            have c79b2 : (t469.length == t443.length) = true := by first | simpa using c79 | (simp at c79 ⊢; omega)
                            clear c79
                            obtain rfl := Option.some.inj H
                            go_wp2_with (first | ((with_reducible refine gate_callee (f := 6) rfl ?_); refine goesL_ (some 167) rfl rfl Tryz.func6 (by kernel_rfl) rfl #[.string t441, .int .i64 (wrap64 (t442 - 1))] rfl (by (try simp only [List.map_toArray, List.map_cons, List.map_nil]); first | done | rfl | (simp only [List.length_drop, List.length_take]; rfl)) ?_; (with_reducible refine (impl_NearByPairs.calls kj66 t441 (wrap64 (t442 - 1)) t469 true _ A73.out).mono ?_); rintro e w80 ⟨v471, rfl, ho0, hb⟩; refine ⟨_, rfl, ?_⟩; have n0_ := aM (Kd.R_elder' (by (with_reducible repeat (first | apply rA | apply rN | apply rD)); exact HO_7.out) (Kd.R_base ho0) hb); have n1_ := aM (Kd.R_elder' (by (with_reducible repeat (first | apply rA | apply rN | apply rD)); exact HO_11.out) (Kd.R_base ho0) hb); have n2_ := aM (Kd.R_lower (Kd.R_new' (Kd.R_new' ho0 (Kd.R_lt (by (with_reducible repeat (first | apply rA | apply rN | apply rD)); exact HO_7.out))) (Kd.R_lt (by (with_reducible repeat (first | apply rA | apply rN | apply rD)); exact HO_11.out))) (below_size (by repeat (first | (with_reducible first | exact HB.out | apply bA | apply bN | apply bD) | exact HB.out)))); have n3_ := aM (below_step (by repeat (first | (with_reducible first | exact HB.out | apply bA | apply bN | apply bD) | exact HB.out)) hb); clear HO_7; clear HO_11; clear HB; have HO_7 := n0_; have HO_11 := n1_; have HO472 := n2_; have HB := n3_; clear n0_ n1_ n2_ n3_; (try clear hb); (try clear hb2); (try clear hk); (try clear hi); (try clear ho0); obtain ⟨Ao81, co81, eo81⟩ := Kd.R_slice HO472.out; subst eo81))
                            go_ret
                            exact ⟨by first | rfl | (simp [errW_none, errW_some] <;> rfl) | (simp [*, errW_none, errW_some] <;> rfl), by repeat (first | (with_reducible first | exact HB.out | apply bA | apply bN | apply bD) | exact HB.out)⟩
                           ·rw [if_neg c79] at H
                            have c79b0 : ((t469.length : Int) == (t443.length : Int)) = false := beq_eq_false_iff_ne.mpr c79
                            have c79b1 : ((t469.length : Int) != (t443.length : Int)) = true := bne_iff_ne.mpr c79
                            have c79b2 : (t469.length == t443.length) = false := by first | simpa using c79 | (simp at c79 ⊢; omega)
                            have H' := aM H
                            clear H
                            go_wp2_with (first | ((with_reducible refine gate_callee (f := 6) rfl ?_); refine goesL_ (some 167) rfl rfl Tryz.func6 (by kernel_rfl) rfl #[.string t441, .int .i64 (wrap64 (t442 - 1))] rfl (by (try simp only [List.map_toArray, List.map_cons, List.map_nil]); first | done | rfl | (simp only [List.length_drop, List.length_take]; rfl)) ?_; (with_reducible refine (impl_NearByPairs.calls kj66 t441 (wrap64 (t442 - 1)) t469 true _ A73.out).mono ?_); rintro e w82 ⟨v471, rfl, ho0, hb⟩; refine ⟨_, rfl, ?_⟩; have n0_ := aM (Kd.R_elder' (by (with_reducible repeat (first | apply rA | apply rN | apply rD)); exact HO_7.out) (Kd.R_base ho0) hb); have n1_ := aM (Kd.R_elder' (by (with_reducible repeat (first | apply rA | apply rN | apply rD)); exact HO_11.out) (Kd.R_base ho0) hb); have n2_ := aM (Kd.R_lower (Kd.R_new' (Kd.R_new' ho0 (Kd.R_lt (by (with_reducible repeat (first | apply rA | apply rN | apply rD)); exact HO_7.out))) (Kd.R_lt (by (with_reducible repeat (first | apply rA | apply rN | apply rD)); exact HO_11.out))) (below_size (by repeat (first | (with_reducible first | exact HB.out | apply bA | apply bN | apply bD) | exact HB.out)))); have n3_ := aM (below_step (by repeat (first | (with_reducible first | exact HB.out | apply bA | apply bN | apply bD) | exact HB.out)) hb); clear HO_7; clear HO_11; clear HB; have HO_7 := n0_; have HO_11 := n1_; have HO472 := n2_; have HB := n3_; clear n0_ n1_ n2_ n3_; (try clear hb); (try clear hb2); (try clear hk); (try clear hi); (try clear ho0); obtain ⟨Ao83, co83, eo83⟩ := Kd.R_slice HO472.out; subst eo83))
                            go_meet
                            case rel => exact ⟨_, H', ⟨by have := HJ9.out; have := HK2.out; have := HJ66.out; first | omega | exact Nat.le_refl _⟩, ⟨by (with_reducible repeat (first | apply rA | apply rN | apply rD)); exact Kd.R_mono HO_11.out (fun _ hk => trivial)⟩, ⟨by repeat (first | (with_reducible first | exact HB.out | apply bA | apply bN | apply bD) | exact HB.out)⟩⟩
                          ·rw [if_neg c78] at H
                           have c78b0 : decide (t442 ≤ t452) = false := decide_eq_false c78
                           clear c78
                           have H' := aM H
                           clear H
                           go_wp2_with (first | ((with_reducible refine gate_callee (f := 6) rfl ?_); refine goesL_ (some 167) rfl rfl Tryz.func6 (by kernel_rfl) rfl #[.string t441, .int .i64 (wrap64 (t442 - 1))] rfl (by (try simp only [List.map_toArray, List.map_cons, List.map_nil]); first | done | rfl | (simp only [List.length_drop, List.length_take]; rfl)) ?_; (with_reducible refine (impl_NearByPairs.calls kj66 t441 (wrap64 (t442 - 1)) t469 true _ A73.out).mono ?_); rintro e w84 ⟨v471, rfl, ho0, hb⟩; refine ⟨_, rfl, ?_⟩; have n0_ := aM (Kd.R_elder' (by (with_reducible repeat (first | apply rA | apply rN | apply rD)); exact HO_7.out) (Kd.R_base ho0) hb); have n1_ := aM (Kd.R_elder' (by (with_reducible repeat (first | apply rA | apply rN | apply rD)); exact HO_11.out) (Kd.R_base ho0) hb); have n2_ := aM (Kd.R_lower (Kd.R_new' (Kd.R_new' ho0 (Kd.R_lt (by (with_reducible repeat (first | apply rA | apply rN | apply rD)); exact HO_7.out))) (Kd.R_lt (by (with_reducible repeat (first | apply rA | apply rN | apply rD)); exact HO_11.out))) (below_size (by repeat (first | (with_reducible first | exact HB.out | apply bA | apply bN | apply bD) | exact HB.out)))); have n3_ := aM (below_step (by repeat (first | (with_reducible first | exact HB.out | apply bA | apply bN | apply bD) | exact HB.out)) hb); clear HO_7; clear HO_11; clear HB; have HO_7 := n0_; have HO_11 := n1_; have HO472 := n2_; have HB := n3_; clear n0_ n1_ n2_ n3_; (try clear hb); (try clear hb2); (try clear hk); (try clear hi); (try clear ho0); obtain ⟨Ao85, co85, eo85⟩ := Kd.R_slice HO472.out; subst eo85))
                           go_meet
                           case rel => exact ⟨_, H', ⟨by have := HJ9.out; have := HK2.out; have := HJ66.out; first | omega | exact Nat.le_refl _⟩, ⟨by (with_reducible repeat (first | apply rA | apply rN | apply rD)); exact Kd.R_mono HO_11.out (fun _ hk => trivial)⟩, ⟨by repeat (first | (with_reducible first | exact HB.out | apply bA | apply bN | apply bD) | exact HB.out)⟩⟩
                        ·replace c74 := Bool.eq_false_iff.mpr c74
                         subst c74
                         have H1 : (some false) = some r := by rw [if_neg (show ¬ (false = true) by decide)] at H; exact H
                         clear H; have H := H1; clear H1
                         obtain rfl := Option.some.inj H
                         go_wp2_with (first | ((with_reducible refine gate_callee (f := 6) rfl ?_); refine goesL_ (some 167) rfl rfl Tryz.func6 (by kernel_rfl) rfl #[.string t441, .int .i64 (wrap64 (t442 - 1))] rfl (by (try simp only [List.map_toArray, List.map_cons, List.map_nil]); first | done | rfl | (simp only [List.length_drop, List.length_take]; rfl)) ?_; (with_reducible refine (impl_NearByPairs.calls kj66 t441 (wrap64 (t442 - 1)) t469 false _ A73.out).mono ?_); rintro e w86 ⟨v471, rfl, ho0, hb⟩; refine ⟨_, rfl, ?_⟩; have n0_ := aM (Kd.R_elder' (by (with_reducible repeat (first | apply rA | apply rN | apply rD)); exact HO_7.out) (Kd.R_base ho0) hb); have n1_ := aM (Kd.R_elder' (by (with_reducible repeat (first | apply rA | apply rN | apply rD)); exact HO_11.out) (Kd.R_base ho0) hb); have n2_ := aM (Kd.R_lower (Kd.R_new' (Kd.R_new' ho0 (Kd.R_lt (by (with_reducible repeat (first | apply rA | apply rN | apply rD)); exact HO_7.out))) (Kd.R_lt (by (with_reducible repeat (first | apply rA | apply rN | apply rD)); exact HO_11.out))) (below_size (by repeat (first | (with_reducible first | exact HB.out | apply bA | apply bN | apply bD) | exact HB.out)))); have n3_ := aM (below_step (by repeat (first | (with_reducible first | exact HB.out | apply bA | apply bN | apply bD) | exact HB.out)) hb); clear HO_7; clear HO_11; clear HB; have HO_7 := n0_; have HO_11 := n1_; have HO472 := n2_; have HB := n3_; clear n0_ n1_ n2_ n3_; (try clear hb); (try clear hb2); (try clear hk); (try clear hi); (try clear ho0)))
                         go_ret
                         exact ⟨by first | rfl | (simp [errW_none, errW_some] <;> rfl) | (simp [*, errW_none, errW_some] <;> rfl), by repeat (first | (with_reducible first | exact HB.out | apply bA | apply bN | apply bD) | exact HB.out)⟩
                      ·rw [if_neg c72] at H
                       have c72b0 : decide (0 < t442) = false := decide_eq_false c72
                       clear c72
                       have H' := aM H
                       clear H
                       go_wp2
                       go_meet
                       case rel => exact ⟨_, H', ⟨by have := HJ9.out; have := HK2.out; have := HJ66.out; first | omega | exact Nat.le_refl _⟩, ⟨by (with_reducible repeat (first | apply rA | apply rN | apply rD)); exact Kd.R_mono HO_11.out (fun _ hk => trivial)⟩, ⟨by repeat (first | (with_reducible first | exact HB.out | apply bA | apply bN | apply bD) | exact HB.out)⟩⟩
          ·replace c46 := Bool.eq_false_iff.mpr c46
           subst c46
           have H1 : (laws_FnPairsNear.j3 kj9 l1 t441 t451 t452 t453) = some r := by rw [if_neg (show ¬ (false = true) by decide)] at H; exact H
           clear H; have H := H1; clear H1
           have H' := aM H
           clear H
           go_wp2
           go_meet
           case rel => exact ⟨_, H', ⟨by have := HJ9.out; first | omega | exact Nat.le_refl _⟩, ⟨by (with_reducible repeat (first | apply rA | apply rN | apply rD)); exact Kd.R_mono HO_11.out (fun _ hk => trivial)⟩, ⟨by repeat (first | (with_reducible first | exact HB.out | apply bA | apply bN | apply bD) | exact HB.out)⟩⟩
        case rest =>
         as_aux_lemma =>
          clear HC45
          try clear c1
          try clear c2
          try clear p2
          try clear c3
          try clear c4
          try clear p4
          try clear q4
          try clear hx4
          try clear c5
          try clear c6
          try clear p6
          try clear c7
          try clear c8
          try clear c9
          try clear c11
          try clear c12
          try clear c13
          try clear c16
          try clear c16b0
          try clear c16b1
          try clear c16b2
          try clear c18
          try clear c19
          try clear c19b0
          try clear c19b1
          try clear c19b2
          try clear c23
          try clear c24
          try clear c24b0
          try clear c24b1
          try clear c25
          try clear c44
          try clear c46
          try clear p46
          try clear q46
          try clear hx46
          try clear c48
          try clear c48b0
          try clear c49
          try clear c49b0
          try clear c50
          try clear c50b0
          try clear c53
          try clear c54
          try clear c54b0
          try clear c57
          try clear c58
          try clear c58b0
          try clear p64
          try clear c69
          try clear c70
          try clear c70b0
          try clear c70b1
          try clear c71
          try clear c72
          try clear c72b0
          try clear c74
          try clear c75
          try clear c75b0
          try clear c75b1
          try clear c78
          try clear c78b0
          try clear c79
          try clear c79b0
          try clear c79b1
          try clear c79b2
          try clear hx463_0
          try clear p2
          try clear p4
          try clear p46
          try clear p463
          try clear p6
          try clear p64
          try clear q4
          try clear q46
          try clear q463
          obtain ⟨kq, HA, HJ44, HO_11, HB⟩ := hcut
          cases kq with
          | zero => exact absurd HA.out (by simp [laws_FnPairsNear.j3])
          | succ kj44 =>
           have H := HA.out
           clear HA
           simp only [laws_FnPairsNear.j3] at H
           have HC87 := aM H
           clear H
           go_upto_if 191 with (fail)
           go_cut [] (fun wc => ∃ (kq : Nat), Aside0 (laws_FnPairsNear.j5 kq l1 = some r) ∧ Aside0 (kq ≤ kj44) ∧ Aside0 (Below w.heap.size w wc))
           case first =>
            as_aux_lemma =>
             have H := HC87.out
             clear HC87
             by_cases c88 : t453 = true
             ·as_aux_lemma =>
               subst c88
               have H1 : (laws_FnPairsNear.l1 kj44 l1 t441 t451 t452 t451 (t451.length : Int) 0) = some r := by rw [if_pos rfl] at H; exact H
               clear H; have H := H1; clear H1
               have H' := aM H
               clear H
               obtain ⟨Ao89, co89, eo89⟩ := Kd.R_slice HO_11.out
               subst eo89
               go_wp2
               go_loopg [194] kj44 (fun kq v194 w' => ∃ (x194_3 : Int), v194 = .int .i64 x194_3 ∧ Aside0 (laws_FnPairsNear.l1 kq l1 t441 t451 t452 t451 (t451.length : Int) x194_3 = some r) ∧ Aside0 (kq ≤ kj44) ∧ Aside0 (Kd.R Kd.string 9 w' w.heap.size (fun _ => True) (.slice Ao89 t451.length co89) t451) ∧ Aside0 (Kd.R Kd.string 9 w' w.heap.size (fun _ => True) (.slice Ao89 t451.length co89) t451) ∧ Aside0 (Below w.heap.size w w'))
               case atStart => exact ⟨(0), (by first | rfl | (simp; done) | (simp [*]; done)), H', ⟨Nat.le_refl _⟩, ⟨by (with_reducible repeat (first | apply rA | apply rN | apply rD)); exact HO_11.out⟩, ⟨by (with_reducible repeat (first | apply rA | apply rN | apply rD)); exact HO_11.out⟩, ⟨by repeat (first | (with_reducible first | exact HB.out | apply bA | apply bN | apply bD) | exact HB.out)⟩⟩
               case round =>
                as_aux_lemma =>
                 clear H'
                 try clear c1
                 try clear c2
                 try clear p2
                 try clear c3
                 try clear c4
                 try clear p4
                 try clear q4
                 try clear hx4
                 try clear c5
                 try clear c6
                 try clear p6
                 try clear c7
                 try clear c8
                 try clear c9
                 try clear c11
                 try clear c12
                 try clear c13
                 try clear c16
                 try clear c16b0
                 try clear c16b1
                 try clear c16b2
                 try clear c18
                 try clear c19
                 try clear c19b0
                 try clear c19b1
                 try clear c19b2
                 try clear c23
                 try clear c24
                 try clear c24b0
                 try clear c24b1
                 try clear c25
                 try clear c44
                 try clear c46
                 try clear p46
                 try clear q46
                 try clear hx46
                 try clear c48
                 try clear c48b0
                 try clear c49
                 try clear c49b0
                 try clear c50
                 try clear c50b0
                 try clear c53
                 try clear c54
                 try clear c54b0
                 try clear c57
                 try clear c58
                 try clear c58b0
                 try clear p64
                 try clear c69
                 try clear c70
                 try clear c70b0
                 try clear c70b1
                 try clear c71
                 try clear c72
                 try clear c72b0
                 try clear c74
                 try clear c75
                 try clear c75b0
                 try clear c75b1
                 try clear c78
                 try clear c78b0
                 try clear c79
                 try clear c79b0
                 try clear c79b1
                 try clear c79b2
                 try clear c88
                 try clear hx463_0
                 try clear p2
                 try clear p4
                 try clear p46
                 try clear p463
                 try clear p6
                 try clear p64
                 try clear q4
                 try clear q46
                 try clear q463
                 obtain ⟨x194_3, rfl, HA, HK3, HO_11, HO_192, HB⟩ := hrel
                 cases gk with
                 | zero => exact absurd HA.out (by simp [laws_FnPairsNear.l1])
                 | succ k3 =>
                  have H := HA.out
                  clear HA
                  simp only [laws_FnPairsNear.l1] at H
                  by_cases c90 : x194_3 < (t451.length : Int)
                  ·as_aux_lemma =>
                    rw [if_pos c90] at H
                    have c90b0 : decide (x194_3 < (t451.length : Int)) = true := decide_eq_true c90
                    clear c90
                    (first | rw [c90b0] | (simp only [i64_w, i32_w]; rw [c90b0]) | skip)
                    by_cases c91 : 0 ≤ x194_3
                    ·as_aux_lemma =>
                      rw [if_pos c91] at H
                      have c91b0 : decide (0 ≤ x194_3) = true := decide_eq_true c91
                      clear c91
                      by_cases c92 : x194_3 < (t451.length : Int)
                      ·as_aux_lemma =>
                        rw [if_pos c92] at H
                        have c92b0 : decide (x194_3 < (t451.length : Int)) = true := decide_eq_true c92
                        clear c92
                        replace H := Option.bind_eq_some_iff.mp H
                        obtain ⟨⟨t474, t475⟩, A930, H⟩ := H
                        replace H : (if x194_3 < 4 then (if t475 = true then (if t474 = t452 then (laws_FnPairsNear.l1 k3 l1 t441 t451 t452 t451 (t451.length : Int) (wrap64 (x194_3 + 1))) else (some false)) else (some false)) else (laws_FnPairsNear.l1 k3 l1 t441 t451 t452 t451 (t451.length : Int) (wrap64 (x194_3 + 1)))) = some r := H
                        have A93 := aM A930
                        clear A930
                        by_cases c94 : x194_3 < 4
                        ·rw [if_pos c94] at H
                         have c94b0 : decide (x194_3 < 4) = true := decide_eq_true c94
                         clear c94
                         by_cases c95 : t475 = true
                         ·subst c95
                          have H1 : (if t474 = t452 then (laws_FnPairsNear.l1 k3 l1 t441 t451 t452 t451 (t451.length : Int) (wrap64 (x194_3 + 1))) else (some false)) = some r := by rw [if_pos rfl] at H; exact H
                          clear H; have H := H1; clear H1
                          by_cases c96 : t474 = t452
                          ·rw [if_pos c96] at H
                           have c96b0 : (t474 == t452) = true := beq_iff_eq.mpr c96
                           have c96b1 : (t474 != t452) = false := bne_eq_false_iff_eq.mpr c96
                           clear c96
                           have H' := aM H
                           clear H
                           have p473 : 0 ≤ (x194_3 : Int) := of_decide_eq_true (by first | (with_reducible assumption) | assumption)
                           have q473 : x194_3 < (t451.length : Int) := of_decide_eq_true (by first | (with_reducible assumption) | assumption)
                           obtain ⟨ad473, e473, hx473_0⟩ := Kd.at_string (Kd.R_reads' HO_192.out).2.2 x194_3 p473 q473
                           cases e473
                           replace p473 := eq_true p473
                           replace q473 := eq_true q473
                           go_wp2_with (first | ((with_reducible refine gate_callee (f := 12) rfl ?_); refine goesL_ (some 202) rfl rfl Tryz.func12 (by kernel_rfl) rfl #[.string t441, .string (rdOf ByteArray.empty t451 x194_3)] rfl (by (try simp only [List.map_toArray, List.map_cons, List.map_nil]); first | done | rfl | (simp only [List.length_drop, List.length_take]; rfl)) ?_; (with_reducible refine (impl_FewestPairMoves.calls k3 t441 (rdOf ByteArray.empty t451 x194_3) t474 true _ A93.out).mono ?_); rintro e w97 ⟨rfl, hb⟩; refine ⟨_, rfl, ?_⟩; have n0_ := aM (Kd.R_below (by (with_reducible repeat (first | apply rA | apply rN | apply rD)); exact HO_11.out) hb); have n1_ := aM (Kd.R_below (by (with_reducible repeat (first | apply rA | apply rN | apply rD)); exact HO_192.out) hb); have n2_ := aM (below_step (by repeat (first | (with_reducible first | exact HB.out | apply bA | apply bN | apply bD) | exact HB.out)) hb); clear HO_11; clear HO_192; clear HB; have HO_11 := n0_; have HO_192 := n1_; have HB := n2_; clear n0_ n1_ n2_; (try clear hb); (try clear hb2); (try clear hk); (try clear hi)))
                           go_roundg k3
                           case measure => have := HJ9.out; have := HJ44.out; have := HK3.out; omega
                           case rel => exact ⟨(wrap64 (x194_3 + 1)), (by first | rfl | (simp; done) | (simp [*]; done)), H', ⟨by have := HJ9.out; have := HJ44.out; have := HK3.out; omega⟩, ⟨by (with_reducible repeat (first | apply rA | apply rN | apply rD)); exact HO_11.out⟩, ⟨by (with_reducible repeat (first | apply rA | apply rN | apply rD)); exact HO_192.out⟩, ⟨by repeat (first | (with_reducible first | exact HB.out | apply bA | apply bN | apply bD) | exact HB.out)⟩⟩
                          ·rw [if_neg c96] at H
                           have c96b0 : (t474 == t452) = false := beq_eq_false_iff_ne.mpr c96
                           have c96b1 : (t474 != t452) = true := bne_iff_ne.mpr c96
                           obtain rfl := Option.some.inj H
                           have p473 : 0 ≤ (x194_3 : Int) := of_decide_eq_true (by first | (with_reducible assumption) | assumption)
                           have q473 : x194_3 < (t451.length : Int) := of_decide_eq_true (by first | (with_reducible assumption) | assumption)
                           obtain ⟨ad473, e473, hx473_0⟩ := Kd.at_string (Kd.R_reads' HO_192.out).2.2 x194_3 p473 q473
                           cases e473
                           replace p473 := eq_true p473
                           replace q473 := eq_true q473
                           go_wp2_with (first | ((with_reducible refine gate_callee (f := 12) rfl ?_); refine goesL_ (some 202) rfl rfl Tryz.func12 (by kernel_rfl) rfl #[.string t441, .string (rdOf ByteArray.empty t451 x194_3)] rfl (by (try simp only [List.map_toArray, List.map_cons, List.map_nil]); first | done | rfl | (simp only [List.length_drop, List.length_take]; rfl)) ?_; (with_reducible refine (impl_FewestPairMoves.calls k3 t441 (rdOf ByteArray.empty t451 x194_3) t474 true _ A93.out).mono ?_); rintro e w98 ⟨rfl, hb⟩; refine ⟨_, rfl, ?_⟩; have n0_ := aM (Kd.R_below (by (with_reducible repeat (first | apply rA | apply rN | apply rD)); exact HO_11.out) hb); have n1_ := aM (Kd.R_below (by (with_reducible repeat (first | apply rA | apply rN | apply rD)); exact HO_192.out) hb); have n2_ := aM (below_step (by repeat (first | (with_reducible first | exact HB.out | apply bA | apply bN | apply bD) | exact HB.out)) hb); clear HO_11; clear HO_192; clear HB; have HO_11 := n0_; have HO_192 := n1_; have HB := n2_; clear n0_ n1_ n2_; (try clear hb); (try clear hb2); (try clear hk); (try clear hi)))
                           go_ret
                           exact ⟨by first | rfl | (simp [errW_none, errW_some] <;> rfl) | (simp [*, errW_none, errW_some] <;> rfl), by repeat (first | (with_reducible first | exact HB.out | apply bA | apply bN | apply bD) | exact HB.out)⟩
                         ·replace c95 := Bool.eq_false_iff.mpr c95
                          subst c95
                          have H1 : (some false) = some r := by rw [if_neg (show ¬ (false = true) by decide)] at H; exact H
                          clear H; have H := H1; clear H1
                          obtain rfl := Option.some.inj H
                          have p473 : 0 ≤ (x194_3 : Int) := of_decide_eq_true (by first | (with_reducible assumption) | assumption)
                          have q473 : x194_3 < (t451.length : Int) := of_decide_eq_true (by first | (with_reducible assumption) | assumption)
                          obtain ⟨ad473, e473, hx473_0⟩ := Kd.at_string (Kd.R_reads' HO_192.out).2.2 x194_3 p473 q473
                          cases e473
                          replace p473 := eq_true p473
                          replace q473 := eq_true q473
                          go_wp2_with (first | ((with_reducible refine gate_callee (f := 12) rfl ?_); refine goesL_ (some 202) rfl rfl Tryz.func12 (by kernel_rfl) rfl #[.string t441, .string (rdOf ByteArray.empty t451 x194_3)] rfl (by (try simp only [List.map_toArray, List.map_cons, List.map_nil]); first | done | rfl | (simp only [List.length_drop, List.length_take]; rfl)) ?_; (with_reducible refine (impl_FewestPairMoves.calls k3 t441 (rdOf ByteArray.empty t451 x194_3) t474 false _ A93.out).mono ?_); rintro e w99 ⟨rfl, hb⟩; refine ⟨_, rfl, ?_⟩; have n0_ := aM (Kd.R_below (by (with_reducible repeat (first | apply rA | apply rN | apply rD)); exact HO_11.out) hb); have n1_ := aM (Kd.R_below (by (with_reducible repeat (first | apply rA | apply rN | apply rD)); exact HO_192.out) hb); have n2_ := aM (below_step (by repeat (first | (with_reducible first | exact HB.out | apply bA | apply bN | apply bD) | exact HB.out)) hb); clear HO_11; clear HO_192; clear HB; have HO_11 := n0_; have HO_192 := n1_; have HB := n2_; clear n0_ n1_ n2_; (try clear hb); (try clear hb2); (try clear hk); (try clear hi)))
                          go_ret
                          exact ⟨by first | rfl | (simp [errW_none, errW_some] <;> rfl) | (simp [*, errW_none, errW_some] <;> rfl), by repeat (first | (with_reducible first | exact HB.out | apply bA | apply bN | apply bD) | exact HB.out)⟩
                        ·rw [if_neg c94] at H
                         have c94b0 : decide (x194_3 < 4) = false := decide_eq_false c94
                         clear c94
                         have H' := aM H
                         clear H
                         have p473 : 0 ≤ (x194_3 : Int) := of_decide_eq_true (by first | (with_reducible assumption) | assumption)
                         have q473 : x194_3 < (t451.length : Int) := of_decide_eq_true (by first | (with_reducible assumption) | assumption)
                         obtain ⟨ad473, e473, hx473_0⟩ := Kd.at_string (Kd.R_reads' HO_192.out).2.2 x194_3 p473 q473
                         cases e473
                         replace p473 := eq_true p473
                         replace q473 := eq_true q473
                         go_wp2_with (first | ((with_reducible refine gate_callee (f := 12) rfl ?_); refine goesL_ (some 202) rfl rfl Tryz.func12 (by kernel_rfl) rfl #[.string t441, .string (rdOf ByteArray.empty t451 x194_3)] rfl (by (try simp only [List.map_toArray, List.map_cons, List.map_nil]); first | done | rfl | (simp only [List.length_drop, List.length_take]; rfl)) ?_; (with_reducible refine (impl_FewestPairMoves.calls k3 t441 (rdOf ByteArray.empty t451 x194_3) t474 t475 _ A93.out).mono ?_); rintro e w100 ⟨rfl, hb⟩; refine ⟨_, rfl, ?_⟩; have n0_ := aM (Kd.R_below (by (with_reducible repeat (first | apply rA | apply rN | apply rD)); exact HO_11.out) hb); have n1_ := aM (Kd.R_below (by (with_reducible repeat (first | apply rA | apply rN | apply rD)); exact HO_192.out) hb); have n2_ := aM (below_step (by repeat (first | (with_reducible first | exact HB.out | apply bA | apply bN | apply bD) | exact HB.out)) hb); clear HO_11; clear HO_192; clear HB; have HO_11 := n0_; have HO_192 := n1_; have HB := n2_; clear n0_ n1_ n2_; (try clear hb); (try clear hb2); (try clear hk); (try clear hi)))
                         go_roundg k3
                         case measure => have := HJ9.out; have := HJ44.out; have := HK3.out; omega
                         case rel => exact ⟨(wrap64 (x194_3 + 1)), (by first | rfl | (simp; done) | (simp [*]; done)), H', ⟨by have := HJ9.out; have := HJ44.out; have := HK3.out; omega⟩, ⟨by (with_reducible repeat (first | apply rA | apply rN | apply rD)); exact HO_11.out⟩, ⟨by (with_reducible repeat (first | apply rA | apply rN | apply rD)); exact HO_192.out⟩, ⟨by repeat (first | (with_reducible first | exact HB.out | apply bA | apply bN | apply bD) | exact HB.out)⟩⟩
                      ·rw [if_neg c92] at H
                       exact absurd H (by simp)
                    ·rw [if_neg c91] at H
                     exact absurd H (by simp)
                  ·rw [if_neg c90] at H
                   have c90b0 : decide (x194_3 < (t451.length : Int)) = false := decide_eq_false c90
                   clear c90
                   (first | rw [c90b0] | (simp only [i64_w, i32_w]; rw [c90b0]) | skip)
                   by_cases c101 : (t451.length : Int) < 1
                   ·rw [if_pos c101] at H
                    have c101b0 : decide ((t451.length : Int) < 1) = true := decide_eq_true c101
                    have c101b1 : decide (t451.length < 1) = true := decide_eq_true (by omega)
                    clear c101
                    obtain rfl := Option.some.inj H
                    go_wp2
                    go_ret
                    exact ⟨by first | rfl | (simp [errW_none, errW_some] <;> rfl) | (simp [*, errW_none, errW_some] <;> rfl), by repeat (first | (with_reducible first | exact HB.out | apply bA | apply bN | apply bD) | exact HB.out)⟩
                   ·rw [if_neg c101] at H
                    have c101b0 : decide ((t451.length : Int) < 1) = false := decide_eq_false c101
                    have c101b1 : decide (t451.length < 1) = false := decide_eq_false (by omega)
                    clear c101
                    by_cases c102 : t452 < 1
                    ·rw [if_pos c102] at H
                     have c102b0 : decide (t452 < 1) = true := decide_eq_true c102
                     clear c102
                     obtain rfl := Option.some.inj H
                     go_wp2
                     go_ret
                     exact ⟨by first | rfl | (simp [errW_none, errW_some] <;> rfl) | (simp [*, errW_none, errW_some] <;> rfl), by repeat (first | (with_reducible first | exact HB.out | apply bA | apply bN | apply bD) | exact HB.out)⟩
                    ·rw [if_neg c102] at H
                     have c102b0 : decide (t452 < 1) = false := decide_eq_false c102
                     clear c102
                     have H' := aM H
                     clear H
                     go_wp2
                     go_meet
                     case rel => exact ⟨_, H', ⟨by have := HJ9.out; have := HJ44.out; have := HK3.out; first | omega | exact Nat.le_refl _⟩, ⟨by repeat (first | (with_reducible first | exact HB.out | apply bA | apply bN | apply bD) | exact HB.out)⟩⟩
             ·replace c88 := Bool.eq_false_iff.mpr c88
              subst c88
              have H1 : (laws_FnPairsNear.j5 kj44 l1) = some r := by rw [if_neg (show ¬ (false = true) by decide)] at H; exact H
              clear H; have H := H1; clear H1
              have H' := aM H
              clear H
              go_wp2
              go_meet
              case rel => exact ⟨_, H', ⟨by have := HJ9.out; have := HJ44.out; first | omega | exact Nat.le_refl _⟩, ⟨by repeat (first | (with_reducible first | exact HB.out | apply bA | apply bN | apply bD) | exact HB.out)⟩⟩
           case rest =>
            as_aux_lemma =>
             clear HC87
             try clear c1
             try clear c2
             try clear p2
             try clear c3
             try clear c4
             try clear p4
             try clear q4
             try clear hx4
             try clear c5
             try clear c6
             try clear p6
             try clear c7
             try clear c8
             try clear c9
             try clear c10
             try clear c11
             try clear c12
             try clear c13
             try clear c16
             try clear c16b0
             try clear c16b1
             try clear c16b2
             try clear c18
             try clear c19
             try clear c19b0
             try clear c19b1
             try clear c19b2
             try clear c23
             try clear c24
             try clear c24b0
             try clear c24b1
             try clear c25
             try clear c44
             try clear c46
             try clear p46
             try clear q46
             try clear hx46
             try clear p47
             try clear q47
             try clear hx47
             try clear c48
             try clear c48b0
             try clear c49
             try clear c49b0
             try clear c50
             try clear c50b0
             try clear c53
             try clear c54
             try clear c54b0
             try clear c57
             try clear c58
             try clear c58b0
             try clear p64
             try clear c69
             try clear c70
             try clear c70b0
             try clear c70b1
             try clear c71
             try clear c72
             try clear c72b0
             try clear c74
             try clear c75
             try clear c75b0
             try clear c75b1
             try clear c78
             try clear c78b0
             try clear c79
             try clear c79b0
             try clear c79b1
             try clear c79b2
             try clear c88
             try clear c90
             try clear c90b0
             try clear c91
             try clear c91b0
             try clear c92
             try clear c92b0
             try clear c94
             try clear c94b0
             try clear c95
             try clear c96
             try clear c96b0
             try clear c96b1
             try clear c101
             try clear c101b0
             try clear c101b1
             try clear c102
             try clear c102b0
             try clear hx463_0
             try clear hx473_0
             try clear p2
             try clear p4
             try clear p46
             try clear p463
             try clear p473
             try clear p6
             try clear p64
             try clear q4
             try clear q46
             try clear q463
             try clear q473
             obtain ⟨kq, HA, HJ86, HB⟩ := hcut
             cases kq with
             | zero => exact absurd HA.out (by simp [laws_FnPairsNear.j5])
             | succ kj86 =>
              have H := HA.out
              clear HA
              simp only [laws_FnPairsNear.j5] at H
              replace H := Option.bind_eq_some_iff.mp H
              obtain ⟨⟨t476, t477⟩, A1030, H⟩ := H
              replace H : ((impl_CountByPairs.f kj86 t476 t477).bind fun bt478 => ((spec_CountByPairs.f kj86 t476 t477).bind fun bt480 => ((spec_DrawMostSaved.f l1).bind fun t482 => ((impl_MostSaved.f kj86 t482).bind fun bt483 => ((spec_MostSaved.f kj86 t482).bind fun bt485 => ((impl_PairMovesToClear.f kj86 t482).bind fun bt487 => ((spec_PairMovesToClear.f kj86 t482).bind fun bt489 => (if (bt478.2 != bt480.2) = true then (laws_FnPairsNear.j6 kj86 t477 bt478.1 bt478.2 t482 bt483.1 bt483.2 bt487.1 true) else (if bt478.1 = bt480.1 then (if (bt483.2 != bt485.2) = true then (laws_FnPairsNear.j6 kj86 t477 bt478.1 bt478.2 t482 bt483.1 bt483.2 bt487.1 true) else (if bt483.1 = bt485.1 then (if (bt487.2 != bt489.2) = true then (laws_FnPairsNear.j6 kj86 t477 bt478.1 bt478.2 t482 bt483.1 bt483.2 bt487.1 true) else (if bt487.1 = bt489.1 then (laws_FnPairsNear.j6 kj86 t477 bt478.1 bt478.2 t482 bt483.1 bt483.2 bt487.1 (bt487.2 != bt483.2)) else (laws_FnPairsNear.j6 kj86 t477 bt478.1 bt478.2 t482 bt483.1 bt483.2 bt487.1 true))) else (laws_FnPairsNear.j6 kj86 t477 bt478.1 bt478.2 t482 bt483.1 bt483.2 bt487.1 true))) else (laws_FnPairsNear.j6 kj86 t477 bt478.1 bt478.2 t482 bt483.1 bt483.2 bt487.1 true)))))))))) = some r := H
              have A103 := aM A1030
              clear A1030
              replace H := Option.bind_eq_some_iff.mp H
              obtain ⟨⟨t478, t479⟩, A1040, H⟩ := H
              replace H : ((spec_CountByPairs.f kj86 t476 t477).bind fun bt480 => ((spec_DrawMostSaved.f l1).bind fun t482 => ((impl_MostSaved.f kj86 t482).bind fun bt483 => ((spec_MostSaved.f kj86 t482).bind fun bt485 => ((impl_PairMovesToClear.f kj86 t482).bind fun bt487 => ((spec_PairMovesToClear.f kj86 t482).bind fun bt489 => (if (t479 != bt480.2) = true then (laws_FnPairsNear.j6 kj86 t477 t478 t479 t482 bt483.1 bt483.2 bt487.1 true) else (if t478 = bt480.1 then (if (bt483.2 != bt485.2) = true then (laws_FnPairsNear.j6 kj86 t477 t478 t479 t482 bt483.1 bt483.2 bt487.1 true) else (if bt483.1 = bt485.1 then (if (bt487.2 != bt489.2) = true then (laws_FnPairsNear.j6 kj86 t477 t478 t479 t482 bt483.1 bt483.2 bt487.1 true) else (if bt487.1 = bt489.1 then (laws_FnPairsNear.j6 kj86 t477 t478 t479 t482 bt483.1 bt483.2 bt487.1 (bt487.2 != bt483.2)) else (laws_FnPairsNear.j6 kj86 t477 t478 t479 t482 bt483.1 bt483.2 bt487.1 true))) else (laws_FnPairsNear.j6 kj86 t477 t478 t479 t482 bt483.1 bt483.2 bt487.1 true))) else (laws_FnPairsNear.j6 kj86 t477 t478 t479 t482 bt483.1 bt483.2 bt487.1 true))))))))) = some r := H
              have A104 := aM A1040
              clear A1040
              replace H := Option.bind_eq_some_iff.mp H
              obtain ⟨⟨t480, t481⟩, A1050, H⟩ := H
              replace H : ((spec_DrawMostSaved.f l1).bind fun t482 => ((impl_MostSaved.f kj86 t482).bind fun bt483 => ((spec_MostSaved.f kj86 t482).bind fun bt485 => ((impl_PairMovesToClear.f kj86 t482).bind fun bt487 => ((spec_PairMovesToClear.f kj86 t482).bind fun bt489 => (if (t479 != t481) = true then (laws_FnPairsNear.j6 kj86 t477 t478 t479 t482 bt483.1 bt483.2 bt487.1 true) else (if t478 = t480 then (if (bt483.2 != bt485.2) = true then (laws_FnPairsNear.j6 kj86 t477 t478 t479 t482 bt483.1 bt483.2 bt487.1 true) else (if bt483.1 = bt485.1 then (if (bt487.2 != bt489.2) = true then (laws_FnPairsNear.j6 kj86 t477 t478 t479 t482 bt483.1 bt483.2 bt487.1 true) else (if bt487.1 = bt489.1 then (laws_FnPairsNear.j6 kj86 t477 t478 t479 t482 bt483.1 bt483.2 bt487.1 (bt487.2 != bt483.2)) else (laws_FnPairsNear.j6 kj86 t477 t478 t479 t482 bt483.1 bt483.2 bt487.1 true))) else (laws_FnPairsNear.j6 kj86 t477 t478 t479 t482 bt483.1 bt483.2 bt487.1 true))) else (laws_FnPairsNear.j6 kj86 t477 t478 t479 t482 bt483.1 bt483.2 bt487.1 true)))))))) = some r := H
              have A105 := aM A1050
              clear A1050
              replace H := Option.bind_eq_some_iff.mp H
              obtain ⟨t482, A1060, H⟩ := H
              replace H : ((impl_MostSaved.f kj86 t482).bind fun bt483 => ((spec_MostSaved.f kj86 t482).bind fun bt485 => ((impl_PairMovesToClear.f kj86 t482).bind fun bt487 => ((spec_PairMovesToClear.f kj86 t482).bind fun bt489 => (if (t479 != t481) = true then (laws_FnPairsNear.j6 kj86 t477 t478 t479 t482 bt483.1 bt483.2 bt487.1 true) else (if t478 = t480 then (if (bt483.2 != bt485.2) = true then (laws_FnPairsNear.j6 kj86 t477 t478 t479 t482 bt483.1 bt483.2 bt487.1 true) else (if bt483.1 = bt485.1 then (if (bt487.2 != bt489.2) = true then (laws_FnPairsNear.j6 kj86 t477 t478 t479 t482 bt483.1 bt483.2 bt487.1 true) else (if bt487.1 = bt489.1 then (laws_FnPairsNear.j6 kj86 t477 t478 t479 t482 bt483.1 bt483.2 bt487.1 (bt487.2 != bt483.2)) else (laws_FnPairsNear.j6 kj86 t477 t478 t479 t482 bt483.1 bt483.2 bt487.1 true))) else (laws_FnPairsNear.j6 kj86 t477 t478 t479 t482 bt483.1 bt483.2 bt487.1 true))) else (laws_FnPairsNear.j6 kj86 t477 t478 t479 t482 bt483.1 bt483.2 bt487.1 true))))))) = some r := H
              have A106 := aM A1060
              clear A1060
              replace H := Option.bind_eq_some_iff.mp H
              obtain ⟨⟨t483, t484⟩, A1070, H⟩ := H
              replace H : ((spec_MostSaved.f kj86 t482).bind fun bt485 => ((impl_PairMovesToClear.f kj86 t482).bind fun bt487 => ((spec_PairMovesToClear.f kj86 t482).bind fun bt489 => (if (t479 != t481) = true then (laws_FnPairsNear.j6 kj86 t477 t478 t479 t482 t483 t484 bt487.1 true) else (if t478 = t480 then (if (t484 != bt485.2) = true then (laws_FnPairsNear.j6 kj86 t477 t478 t479 t482 t483 t484 bt487.1 true) else (if t483 = bt485.1 then (if (bt487.2 != bt489.2) = true then (laws_FnPairsNear.j6 kj86 t477 t478 t479 t482 t483 t484 bt487.1 true) else (if bt487.1 = bt489.1 then (laws_FnPairsNear.j6 kj86 t477 t478 t479 t482 t483 t484 bt487.1 (bt487.2 != t484)) else (laws_FnPairsNear.j6 kj86 t477 t478 t479 t482 t483 t484 bt487.1 true))) else (laws_FnPairsNear.j6 kj86 t477 t478 t479 t482 t483 t484 bt487.1 true))) else (laws_FnPairsNear.j6 kj86 t477 t478 t479 t482 t483 t484 bt487.1 true)))))) = some r := H
              have A107 := aM A1070
              clear A1070
              replace H := Option.bind_eq_some_iff.mp H
              obtain ⟨⟨t485, t486⟩, A1080, H⟩ := H
              replace H : ((impl_PairMovesToClear.f kj86 t482).bind fun bt487 => ((spec_PairMovesToClear.f kj86 t482).bind fun bt489 => (if (t479 != t481) = true then (laws_FnPairsNear.j6 kj86 t477 t478 t479 t482 t483 t484 bt487.1 true) else (if t478 = t480 then (if (t484 != t486) = true then (laws_FnPairsNear.j6 kj86 t477 t478 t479 t482 t483 t484 bt487.1 true) else (if t483 = t485 then (if (bt487.2 != bt489.2) = true then (laws_FnPairsNear.j6 kj86 t477 t478 t479 t482 t483 t484 bt487.1 true) else (if bt487.1 = bt489.1 then (laws_FnPairsNear.j6 kj86 t477 t478 t479 t482 t483 t484 bt487.1 (bt487.2 != t484)) else (laws_FnPairsNear.j6 kj86 t477 t478 t479 t482 t483 t484 bt487.1 true))) else (laws_FnPairsNear.j6 kj86 t477 t478 t479 t482 t483 t484 bt487.1 true))) else (laws_FnPairsNear.j6 kj86 t477 t478 t479 t482 t483 t484 bt487.1 true))))) = some r := H
              have A108 := aM A1080
              clear A1080
              replace H := Option.bind_eq_some_iff.mp H
              obtain ⟨⟨t487, t488⟩, A1090, H⟩ := H
              replace H : ((spec_PairMovesToClear.f kj86 t482).bind fun bt489 => (if (t479 != t481) = true then (laws_FnPairsNear.j6 kj86 t477 t478 t479 t482 t483 t484 t487 true) else (if t478 = t480 then (if (t484 != t486) = true then (laws_FnPairsNear.j6 kj86 t477 t478 t479 t482 t483 t484 t487 true) else (if t483 = t485 then (if (t488 != bt489.2) = true then (laws_FnPairsNear.j6 kj86 t477 t478 t479 t482 t483 t484 t487 true) else (if t487 = bt489.1 then (laws_FnPairsNear.j6 kj86 t477 t478 t479 t482 t483 t484 t487 (t488 != t484)) else (laws_FnPairsNear.j6 kj86 t477 t478 t479 t482 t483 t484 t487 true))) else (laws_FnPairsNear.j6 kj86 t477 t478 t479 t482 t483 t484 t487 true))) else (laws_FnPairsNear.j6 kj86 t477 t478 t479 t482 t483 t484 t487 true)))) = some r := H
              have A109 := aM A1090
              clear A1090
              replace H := Option.bind_eq_some_iff.mp H
              obtain ⟨⟨t489, t490⟩, A1100, H⟩ := H
              replace H : (if (t479 != t481) = true then (laws_FnPairsNear.j6 kj86 t477 t478 t479 t482 t483 t484 t487 true) else (if t478 = t480 then (if (t484 != t486) = true then (laws_FnPairsNear.j6 kj86 t477 t478 t479 t482 t483 t484 t487 true) else (if t483 = t485 then (if (t488 != t490) = true then (laws_FnPairsNear.j6 kj86 t477 t478 t479 t482 t483 t484 t487 true) else (if t487 = t489 then (laws_FnPairsNear.j6 kj86 t477 t478 t479 t482 t483 t484 t487 (t488 != t484)) else (laws_FnPairsNear.j6 kj86 t477 t478 t479 t482 t483 t484 t487 true))) else (laws_FnPairsNear.j6 kj86 t477 t478 t479 t482 t483 t484 t487 true))) else (laws_FnPairsNear.j6 kj86 t477 t478 t479 t482 t483 t484 t487 true))) = some r := H
              have A110 := aM A1100
              clear A1100
              have HC111 := aM H
              clear H
              go_upto_region 45 with (first | ((with_reducible refine gate_callee (f := 14) rfl ?_); refine goesL_ (some 226) rfl rfl Tryz.func14 (by kernel_rfl) rfl #[.slice A1 l1.length c1] rfl (by (try simp only [List.map_toArray, List.map_cons, List.map_nil]); first | done | rfl | (simp only [List.length_drop, List.length_take]; rfl)) ?_; (with_reducible refine (spec_DrawCountByPairs.calls _ _ l1 t476 t477 _ ?side1 ?side2 A103.out).mono ?_); (case side1 => repeat (first | exact (Kd.C_below HR1.out HB.out) | (with_reducible refine cA ?_ _) | (with_reducible refine cN ?_ _) | (with_reducible refine cD ?_))); (case side2 => exact HC1.out); rintro e w112 ⟨rfl, hb⟩; refine ⟨_, rfl, ?_⟩; have n0_ := aM (below_step (by repeat (first | (with_reducible first | exact HB.out | apply bA | apply bN | apply bD) | exact HB.out)) hb); clear HB; have HB := n0_; clear n0_; (try clear hb); (try clear hb2); (try clear hk); (try clear hi)) | ((with_reducible refine gate_callee (f := 15) rfl ?_); refine goesL_ (some 232) rfl rfl Tryz.func15 (by kernel_rfl) rfl #[.int .i64 t476, .int .i64 t477] rfl (by (try simp only [List.map_toArray, List.map_cons, List.map_nil]); first | done | rfl | (simp only [List.length_drop, List.length_take]; rfl)) ?_; (with_reducible refine (impl_CountByPairs.calls kj86 t476 t477 t478 t479 _ A104.out).mono ?_); rintro e w113 ⟨rfl, hb⟩; refine ⟨_, rfl, ?_⟩; have n0_ := aM (below_step (by repeat (first | (with_reducible first | exact HB.out | apply bA | apply bN | apply bD) | exact HB.out)) hb); clear HB; have HB := n0_; clear n0_; (try clear hb); (try clear hb2); (try clear hk); (try clear hi)) | ((with_reducible refine gate_callee (f := 16) rfl ?_); refine goesL_ (some 238) rfl rfl Tryz.func16 (by kernel_rfl) rfl #[.int .i64 t476, .int .i64 t477] rfl (by (try simp only [List.map_toArray, List.map_cons, List.map_nil]); first | done | rfl | (simp only [List.length_drop, List.length_take]; rfl)) ?_; (with_reducible refine (spec_CountByPairs.calls kj86 t476 t477 t480 t481 _ A105.out).mono ?_); rintro e w114 ⟨rfl, hb⟩; refine ⟨_, rfl, ?_⟩; have n0_ := aM (below_step (by repeat (first | (with_reducible first | exact HB.out | apply bA | apply bN | apply bD) | exact HB.out)) hb); clear HB; have HB := n0_; clear n0_; (try clear hb); (try clear hb2); (try clear hk); (try clear hi)) | ((with_reducible refine gate_callee (f := 17) rfl ?_); refine goesL_ (some 242) rfl rfl Tryz.func17 (by kernel_rfl) rfl #[.slice A1 l1.length c1] rfl (by (try simp only [List.map_toArray, List.map_cons, List.map_nil]); first | done | rfl | (simp only [List.length_drop, List.length_take]; rfl)) ?_; (with_reducible refine (spec_DrawMostSaved.calls _ _ l1 t482 _ ?side1 ?side2 A106.out).mono ?_); (case side1 => repeat (first | exact (Kd.C_below HR1.out HB.out) | (with_reducible refine cA ?_ _) | (with_reducible refine cN ?_ _) | (with_reducible refine cD ?_))); (case side2 => exact HC1.out); rintro e w115 ⟨rfl, hb⟩; refine ⟨_, rfl, ?_⟩; have n0_ := aM (below_step (by repeat (first | (with_reducible first | exact HB.out | apply bA | apply bN | apply bD) | exact HB.out)) hb); clear HB; have HB := n0_; clear n0_; (try clear hb); (try clear hb2); (try clear hk); (try clear hi)) | ((with_reducible refine gate_callee (f := 18) rfl ?_); refine goesL_ (some 245) rfl rfl Tryz.func18 (by kernel_rfl) rfl #[.int .i64 t482] rfl (by (try simp only [List.map_toArray, List.map_cons, List.map_nil]); first | done | rfl | (simp only [List.length_drop, List.length_take]; rfl)) ?_; (with_reducible refine (impl_MostSaved.calls kj86 t482 t483 t484 _ A107.out).mono ?_); rintro e w116 ⟨rfl, hb⟩; refine ⟨_, rfl, ?_⟩; have n0_ := aM (below_step (by repeat (first | (with_reducible first | exact HB.out | apply bA | apply bN | apply bD) | exact HB.out)) hb); clear HB; have HB := n0_; clear n0_; (try clear hb); (try clear hb2); (try clear hk); (try clear hi)) | ((with_reducible refine gate_callee (f := 19) rfl ?_); refine goesL_ (some 250) rfl rfl Tryz.func19 (by kernel_rfl) rfl #[.int .i64 t482] rfl (by (try simp only [List.map_toArray, List.map_cons, List.map_nil]); first | done | rfl | (simp only [List.length_drop, List.length_take]; rfl)) ?_; (with_reducible refine (spec_MostSaved.calls kj86 t482 t485 t486 _ A108.out).mono ?_); rintro e w117 ⟨rfl, hb⟩; refine ⟨_, rfl, ?_⟩; have n0_ := aM (below_step (by repeat (first | (with_reducible first | exact HB.out | apply bA | apply bN | apply bD) | exact HB.out)) hb); clear HB; have HB := n0_; clear n0_; (try clear hb); (try clear hb2); (try clear hk); (try clear hi)) | ((with_reducible refine gate_callee (f := 20) rfl ?_); refine goesL_ (some 255) rfl rfl Tryz.func20 (by kernel_rfl) rfl #[.int .i64 t482] rfl (by (try simp only [List.map_toArray, List.map_cons, List.map_nil]); first | done | rfl | (simp only [List.length_drop, List.length_take]; rfl)) ?_; (with_reducible refine (impl_PairMovesToClear.calls kj86 t482 t487 t488 _ A109.out).mono ?_); rintro e w118 ⟨rfl, hb⟩; refine ⟨_, rfl, ?_⟩; have n0_ := aM (below_step (by repeat (first | (with_reducible first | exact HB.out | apply bA | apply bN | apply bD) | exact HB.out)) hb); clear HB; have HB := n0_; clear n0_; (try clear hb); (try clear hb2); (try clear hk); (try clear hi)) | ((with_reducible refine gate_callee (f := 21) rfl ?_); refine goesL_ (some 260) rfl rfl Tryz.func21 (by kernel_rfl) rfl #[.int .i64 t482] rfl (by (try simp only [List.map_toArray, List.map_cons, List.map_nil]); first | done | rfl | (simp only [List.length_drop, List.length_take]; rfl)) ?_; (with_reducible refine (spec_PairMovesToClear.calls kj86 t482 t489 t490 _ A110.out).mono ?_); rintro e w119 ⟨rfl, hb⟩; refine ⟨_, rfl, ?_⟩; have n0_ := aM (below_step (by repeat (first | (with_reducible first | exact HB.out | apply bA | apply bN | apply bD) | exact HB.out)) hb); clear HB; have HB := n0_; clear n0_; (try clear hb); (try clear hb2); (try clear hk); (try clear hi)))
              (try simp only [Act.put, sA, sB, sC])
              go_cut [295] (fun v295 wc => ∃ (kq : Nat) (x295_110 : Bool), v295 = .bool x295_110 ∧ Aside0 (laws_FnPairsNear.j6 kq t477 t478 t479 t482 t483 t484 t487 x295_110 = some r) ∧ Aside0 (kq ≤ kj86) ∧ Aside0 (Below w.heap.size w wc))
              case first =>
               as_aux_lemma =>
                have H := HC111.out
                clear HC111
                by_cases c120 : (t479 != t481) = true
                ·rw [if_pos c120] at H
                 have c120b0 : (t479 != t481) = true := c120
                 (try (have c120b1 : decide (t479 = t481) = false := by simpa using c120))
                 (try (have c120b2 : (t479 == t481) = false := by simpa using c120))
                 (try (have c120b3 : ¬ (t479 = t481) := by simpa using c120))
                 clear c120
                 (first | rw [c120b0] | (simp only [i64_w, i32_w]; rw [c120b0]) | skip)
                 have H' := aM H
                 clear H
                 go_wp2
                 go_meet
                 case rel => exact ⟨_, (true), (by first | rfl | (simp; done) | (simp [*]; done)), H', ⟨by have := HJ9.out; have := HJ44.out; have := HJ86.out; first | omega | exact Nat.le_refl _⟩, ⟨by repeat (first | (with_reducible first | exact HB.out | apply bA | apply bN | apply bD) | exact HB.out)⟩⟩
                ·as_aux_lemma =>
                  rw [if_neg c120] at H
                  have c120b0 : (t479 != t481) = false := by simpa using c120
                  (try (have c120b1 : decide (t479 = t481) = true := by simpa using c120))
                  (try (have c120b2 : (t479 == t481) = true := by simpa using c120))
                  clear c120
                  (first | rw [c120b0] | (simp only [i64_w, i32_w]; rw [c120b0]) | skip)
                  by_cases c121 : t478 = t480
                  ·as_aux_lemma =>
                    rw [if_pos c121] at H
                    have c121b0 : (t478 == t480) = true := beq_iff_eq.mpr c121
                    have c121b1 : (t478 != t480) = false := bne_eq_false_iff_eq.mpr c121
                    clear c121
                    by_cases c122 : (t484 != t486) = true
                    ·rw [if_pos c122] at H
                     have c122b0 : (t484 != t486) = true := c122
                     (try (have c122b1 : decide (t484 = t486) = false := by simpa using c122))
                     (try (have c122b2 : (t484 == t486) = false := by simpa using c122))
                     (try (have c122b3 : ¬ (t484 = t486) := by simpa using c122))
                     clear c122
                     have H' := aM H
                     clear H
                     go_wp2
                     go_meet
                     case rel => exact ⟨_, (true), (by first | rfl | (simp; done) | (simp [*]; done)), H', ⟨by have := HJ9.out; have := HJ44.out; have := HJ86.out; first | omega | exact Nat.le_refl _⟩, ⟨by repeat (first | (with_reducible first | exact HB.out | apply bA | apply bN | apply bD) | exact HB.out)⟩⟩
                    ·rw [if_neg c122] at H
                     have c122b0 : (t484 != t486) = false := by simpa using c122
                     (try (have c122b1 : decide (t484 = t486) = true := by simpa using c122))
                     (try (have c122b2 : (t484 == t486) = true := by simpa using c122))
                     clear c122
                     by_cases c123 : t483 = t485
                     ·rw [if_pos c123] at H
                      have c123b0 : (t483 == t485) = true := beq_iff_eq.mpr c123
                      have c123b1 : (t483 != t485) = false := bne_eq_false_iff_eq.mpr c123
                      clear c123
                      by_cases c124 : (t488 != t490) = true
                      ·rw [if_pos c124] at H
                       have c124b0 : (t488 != t490) = true := c124
                       (try (have c124b1 : decide (t488 = t490) = false := by simpa using c124))
                       (try (have c124b2 : (t488 == t490) = false := by simpa using c124))
                       (try (have c124b3 : ¬ (t488 = t490) := by simpa using c124))
                       clear c124
                       have H' := aM H
                       clear H
                       go_wp2
                       go_meet
                       case rel => exact ⟨_, (true), (by first | rfl | (simp; done) | (simp [*]; done)), H', ⟨by have := HJ9.out; have := HJ44.out; have := HJ86.out; first | omega | exact Nat.le_refl _⟩, ⟨by repeat (first | (with_reducible first | exact HB.out | apply bA | apply bN | apply bD) | exact HB.out)⟩⟩
                      ·rw [if_neg c124] at H
                       have c124b0 : (t488 != t490) = false := by simpa using c124
                       (try (have c124b1 : decide (t488 = t490) = true := by simpa using c124))
                       (try (have c124b2 : (t488 == t490) = true := by simpa using c124))
                       clear c124
                       by_cases c125 : t487 = t489
                       ·rw [if_pos c125] at H
                        have c125b0 : (t487 == t489) = true := beq_iff_eq.mpr c125
                        have c125b1 : (t487 != t489) = false := bne_eq_false_iff_eq.mpr c125
                        clear c125
                        have H' := aM H
                        clear H
                        go_wp2
                        go_meet
                        case rel => exact ⟨_, ((t488 != t484)), (by first | rfl | (simp; done) | (simp [*]; done)), H', ⟨by have := HJ9.out; have := HJ44.out; have := HJ86.out; first | omega | exact Nat.le_refl _⟩, ⟨by repeat (first | (with_reducible first | exact HB.out | apply bA | apply bN | apply bD) | exact HB.out)⟩⟩
                       ·rw [if_neg c125] at H
                        have c125b0 : (t487 == t489) = false := beq_eq_false_iff_ne.mpr c125
                        have c125b1 : (t487 != t489) = true := bne_iff_ne.mpr c125
                        have H' := aM H
                        clear H
                        go_wp2
                        go_meet
                        case rel => exact ⟨_, (true), (by first | rfl | (simp; done) | (simp [*]; done)), H', ⟨by have := HJ9.out; have := HJ44.out; have := HJ86.out; first | omega | exact Nat.le_refl _⟩, ⟨by repeat (first | (with_reducible first | exact HB.out | apply bA | apply bN | apply bD) | exact HB.out)⟩⟩
                     ·rw [if_neg c123] at H
                      have c123b0 : (t483 == t485) = false := beq_eq_false_iff_ne.mpr c123
                      have c123b1 : (t483 != t485) = true := bne_iff_ne.mpr c123
                      have H' := aM H
                      clear H
                      go_wp2
                      go_meet
                      case rel => exact ⟨_, (true), (by first | rfl | (simp; done) | (simp [*]; done)), H', ⟨by have := HJ9.out; have := HJ44.out; have := HJ86.out; first | omega | exact Nat.le_refl _⟩, ⟨by repeat (first | (with_reducible first | exact HB.out | apply bA | apply bN | apply bD) | exact HB.out)⟩⟩
                  ·rw [if_neg c121] at H
                   have c121b0 : (t478 == t480) = false := beq_eq_false_iff_ne.mpr c121
                   have c121b1 : (t478 != t480) = true := bne_iff_ne.mpr c121
                   have H' := aM H
                   clear H
                   go_wp2
                   go_meet
                   case rel => exact ⟨_, (true), (by first | rfl | (simp; done) | (simp [*]; done)), H', ⟨by have := HJ9.out; have := HJ44.out; have := HJ86.out; first | omega | exact Nat.le_refl _⟩, ⟨by repeat (first | (with_reducible first | exact HB.out | apply bA | apply bN | apply bD) | exact HB.out)⟩⟩
              case rest =>
               as_aux_lemma =>
                clear HC111
                try clear c1
                try clear c2
                try clear p2
                try clear c3
                try clear c4
                try clear p4
                try clear q4
                try clear hx4
                try clear c5
                try clear c6
                try clear p6
                try clear c7
                try clear c8
                try clear c9
                try clear c10
                try clear c11
                try clear c12
                try clear c13
                try clear c14
                try clear c15
                try clear c16
                try clear c16b0
                try clear c16b1
                try clear c16b2
                try clear c17
                try clear c18
                try clear c19
                try clear c19b0
                try clear c19b1
                try clear c19b2
                try clear c20
                try clear c21
                try clear c23
                try clear c24
                try clear c24b0
                try clear c24b1
                try clear c25
                try clear c44
                try clear c46
                try clear p46
                try clear q46
                try clear hx46
                try clear p47
                try clear q47
                try clear hx47
                try clear c48
                try clear c48b0
                try clear c49
                try clear c49b0
                try clear c50
                try clear c50b0
                try clear c53
                try clear c54
                try clear c54b0
                try clear c57
                try clear c58
                try clear c58b0
                try clear p64
                try clear c69
                try clear c70
                try clear c70b0
                try clear c70b1
                try clear c71
                try clear c72
                try clear c72b0
                try clear c74
                try clear c75
                try clear c75b0
                try clear c75b1
                try clear c78
                try clear c78b0
                try clear c79
                try clear c79b0
                try clear c79b1
                try clear c79b2
                try clear c88
                try clear c90
                try clear c90b0
                try clear c91
                try clear c91b0
                try clear c92
                try clear c92b0
                try clear c94
                try clear c94b0
                try clear c95
                try clear c96
                try clear c96b0
                try clear c96b1
                try clear c101
                try clear c101b0
                try clear c101b1
                try clear c102
                try clear c102b0
                try clear c120
                try clear c120b0
                try clear c120b1
                try clear c120b2
                try clear c121
                try clear c121b0
                try clear c121b1
                try clear c122
                try clear c122b0
                try clear c122b1
                try clear c122b2
                try clear c123
                try clear c123b0
                try clear c123b1
                try clear c124
                try clear c124b0
                try clear c124b1
                try clear c124b2
                try clear c125
                try clear c125b0
                try clear c125b1
                try clear hx463_0
                try clear hx473_0
                try clear p2
                try clear p4
                try clear p46
                try clear p463
                try clear p47
                try clear p473
                try clear p6
                try clear p64
                try clear q4
                try clear q46
                try clear q463
                try clear q47
                try clear q473
                obtain ⟨kq, x295_110, rfl, HA, HJ110, HB⟩ := hcut
                cases kq with
                | zero => exact absurd HA.out (by simp [laws_FnPairsNear.j6])
                | succ kj110 =>
                 have H := HA.out
                 clear HA
                 simp only [laws_FnPairsNear.j6] at H
                 by_cases c126 : x295_110 = true
                 ·subst c126
                  have H1 : (some false) = some r := by rw [if_pos rfl] at H; exact H
                  clear H; have H := H1; clear H1
                  obtain rfl := Option.some.inj H
                  go_wp2
                  go_ret
                  exact ⟨by first | rfl | (simp [errW_none, errW_some] <;> rfl) | (simp [*, errW_none, errW_some] <;> rfl), by repeat (first | (with_reducible first | exact HB.out | apply bA | apply bN | apply bD) | exact HB.out)⟩
                 ·as_aux_lemma =>
                   replace c126 := Bool.eq_false_iff.mpr c126
                   subst c126
                   have H1 : (if t479 = true then (if t478 < 0 then (laws_FnPairsNear.j7 kj110 t482 t483 t484 t487 true) else (if t477 = 0 then (laws_FnPairsNear.j7 kj110 t482 t483 t484 t487 (t478 != 1)) else (laws_FnPairsNear.j7 kj110 t482 t483 t484 t487 false))) else (laws_FnPairsNear.j7 kj110 t482 t483 t484 t487 false)) = some r := by rw [if_neg (show ¬ (false = true) by decide)] at H; exact H
                   clear H; have H := H1; clear H1
                   have HC127 := aM H
                   clear H
                   go_upto_region 47 with (fail)
                   go_cut [308] (fun v308 wc => ∃ (kq : Nat) (x308_126 : Bool), v308 = .bool x308_126 ∧ Aside0 (laws_FnPairsNear.j7 kq t482 t483 t484 t487 x308_126 = some r) ∧ Aside0 (kq ≤ kj110) ∧ Aside0 (Below w.heap.size w wc))
                   case first =>
                    as_aux_lemma =>
                     have H := HC127.out
                     clear HC127
                     by_cases c128 : t479 = true
                     ·subst c128
                      have H1 : (if t478 < 0 then (laws_FnPairsNear.j7 kj110 t482 t483 t484 t487 true) else (if t477 = 0 then (laws_FnPairsNear.j7 kj110 t482 t483 t484 t487 (t478 != 1)) else (laws_FnPairsNear.j7 kj110 t482 t483 t484 t487 false))) = some r := by rw [if_pos rfl] at H; exact H
                      clear H; have H := H1; clear H1
                      by_cases c129 : t478 < 0
                      ·rw [if_pos c129] at H
                       have c129b0 : decide (t478 < 0) = true := decide_eq_true c129
                       clear c129
                       (first | rw [c129b0] | (simp only [i64_w, i32_w]; rw [c129b0]) | skip)
                       have H' := aM H
                       clear H
                       go_wp2
                       go_meet
                       case rel => exact ⟨_, (true), (by first | rfl | (simp; done) | (simp [*]; done)), H', ⟨by have := HJ9.out; have := HJ44.out; have := HJ86.out; have := HJ110.out; first | omega | exact Nat.le_refl _⟩, ⟨by repeat (first | (with_reducible first | exact HB.out | apply bA | apply bN | apply bD) | exact HB.out)⟩⟩
                      ·rw [if_neg c129] at H
                       have c129b0 : decide (t478 < 0) = false := decide_eq_false c129
                       clear c129
                       (first | rw [c129b0] | (simp only [i64_w, i32_w]; rw [c129b0]) | skip)
                       by_cases c130 : t477 = 0
                       ·rw [if_pos c130] at H
                        have c130b0 : (t477 == 0) = true := beq_iff_eq.mpr c130
                        have c130b1 : (t477 != 0) = false := bne_eq_false_iff_eq.mpr c130
                        clear c130
                        have H' := aM H
                        clear H
                        go_wp2
                        go_meet
                        case rel => exact ⟨_, ((t478 != 1)), (by first | rfl | (simp; done) | (simp [*]; done)), H', ⟨by have := HJ9.out; have := HJ44.out; have := HJ86.out; have := HJ110.out; first | omega | exact Nat.le_refl _⟩, ⟨by repeat (first | (with_reducible first | exact HB.out | apply bA | apply bN | apply bD) | exact HB.out)⟩⟩
                       ·rw [if_neg c130] at H
                        have c130b0 : (t477 == 0) = false := beq_eq_false_iff_ne.mpr c130
                        have c130b1 : (t477 != 0) = true := bne_iff_ne.mpr c130
                        have H' := aM H
                        clear H
                        go_wp2
                        go_meet
                        case rel => exact ⟨_, (false), (by first | rfl | (simp; done) | (simp [*]; done)), H', ⟨by have := HJ9.out; have := HJ44.out; have := HJ86.out; have := HJ110.out; first | omega | exact Nat.le_refl _⟩, ⟨by repeat (first | (with_reducible first | exact HB.out | apply bA | apply bN | apply bD) | exact HB.out)⟩⟩
                     ·replace c128 := Bool.eq_false_iff.mpr c128
                      subst c128
                      have H1 : (laws_FnPairsNear.j7 kj110 t482 t483 t484 t487 false) = some r := by rw [if_neg (show ¬ (false = true) by decide)] at H; exact H
                      clear H; have H := H1; clear H1
                      have H' := aM H
                      clear H
                      go_wp2
                      go_meet
                      case rel => exact ⟨_, (false), (by first | rfl | (simp; done) | (simp [*]; done)), H', ⟨by have := HJ9.out; have := HJ44.out; have := HJ86.out; have := HJ110.out; first | omega | exact Nat.le_refl _⟩, ⟨by repeat (first | (with_reducible first | exact HB.out | apply bA | apply bN | apply bD) | exact HB.out)⟩⟩
                   case rest =>
                    as_aux_lemma =>
                     clear HC127
                     try clear c1
                     try clear c2
                     try clear p2
                     try clear c3
                     try clear c4
                     try clear p4
                     try clear q4
                     try clear hx4
                     try clear c5
                     try clear c6
                     try clear p6
                     try clear c7
                     try clear c8
                     try clear c9
                     try clear c10
                     try clear c11
                     try clear c12
                     try clear c13
                     try clear c14
                     try clear c15
                     try clear c16
                     try clear c16b0
                     try clear c16b1
                     try clear c16b2
                     try clear c17
                     try clear c18
                     try clear c19
                     try clear c19b0
                     try clear c19b1
                     try clear c19b2
                     try clear c20
                     try clear c21
                     try clear c23
                     try clear c24
                     try clear c24b0
                     try clear c24b1
                     try clear c25
                     try clear c44
                     try clear c46
                     try clear p46
                     try clear q46
                     try clear hx46
                     try clear p47
                     try clear q47
                     try clear hx47
                     try clear c48
                     try clear c48b0
                     try clear c49
                     try clear c49b0
                     try clear c50
                     try clear c50b0
                     try clear c53
                     try clear c54
                     try clear c54b0
                     try clear c57
                     try clear c58
                     try clear c58b0
                     try clear p64
                     try clear c69
                     try clear c70
                     try clear c70b0
                     try clear c70b1
                     try clear c71
                     try clear c72
                     try clear c72b0
                     try clear c74
                     try clear c75
                     try clear c75b0
                     try clear c75b1
                     try clear c78
                     try clear c78b0
                     try clear c79
                     try clear c79b0
                     try clear c79b1
                     try clear c79b2
                     try clear c88
                     try clear c90
                     try clear c90b0
                     try clear c91
                     try clear c91b0
                     try clear c92
                     try clear c92b0
                     try clear c94
                     try clear c94b0
                     try clear c95
                     try clear c96
                     try clear c96b0
                     try clear c96b1
                     try clear c101
                     try clear c101b0
                     try clear c101b1
                     try clear c102
                     try clear c102b0
                     try clear c120
                     try clear c120b0
                     try clear c120b1
                     try clear c120b2
                     try clear c121
                     try clear c121b0
                     try clear c121b1
                     try clear c122
                     try clear c122b0
                     try clear c122b1
                     try clear c122b2
                     try clear c123
                     try clear c123b0
                     try clear c123b1
                     try clear c124
                     try clear c124b0
                     try clear c124b1
                     try clear c124b2
                     try clear c125
                     try clear c125b0
                     try clear c125b1
                     try clear c126
                     try clear c128
                     try clear c129
                     try clear c129b0
                     try clear c130
                     try clear c130b0
                     try clear c130b1
                     try clear hx463_0
                     try clear hx473_0
                     try clear p2
                     try clear p4
                     try clear p46
                     try clear p463
                     try clear p47
                     try clear p473
                     try clear p6
                     try clear p64
                     try clear q4
                     try clear q46
                     try clear q463
                     try clear q47
                     try clear q473
                     obtain ⟨kq, x308_126, rfl, HA, HJ126, HB⟩ := hcut
                     cases kq with
                     | zero => exact absurd HA.out (by simp [laws_FnPairsNear.j7])
                     | succ kj126 =>
                      have H := HA.out
                      clear HA
                      simp only [laws_FnPairsNear.j7] at H
                      by_cases c131 : x308_126 = true
                      ·subst c131
                       have H1 : (some false) = some r := by rw [if_pos rfl] at H; exact H
                       clear H; have H := H1; clear H1
                       obtain rfl := Option.some.inj H
                       go_wp2
                       go_ret
                       exact ⟨by first | rfl | (simp [errW_none, errW_some] <;> rfl) | (simp [*, errW_none, errW_some] <;> rfl), by repeat (first | (with_reducible first | exact HB.out | apply bA | apply bN | apply bD) | exact HB.out)⟩
                      ·as_aux_lemma =>
                        replace c131 := Bool.eq_false_iff.mpr c131
                        subst c131
                        have H1 : (if t484 = true then ((impl_MovesToClear.f kj126 t482).bind fun bt491 => (if bt491.2 = true then (if t483 < (wrap64 (bt491.1 - t487)) then (laws_FnPairsNear.j8 kj126 t482 t487 true) else (if t487 > bt491.1 then (laws_FnPairsNear.j8 kj126 t482 t487 true) else (if t487 < 1 then (laws_FnPairsNear.j8 kj126 t482 t487 true) else (laws_FnPairsNear.j8 kj126 t482 t487 (decide (t483 < 1)))))) else (laws_FnPairsNear.j8 kj126 t482 t487 true))) else (some true)) = some r := by rw [if_neg (show ¬ (false = true) by decide)] at H; exact H
                        clear H; have H := H1; clear H1
                        by_cases c132 : t484 = true
                        ·as_aux_lemma =>
                          subst c132
                          have H1 : ((impl_MovesToClear.f kj126 t482).bind fun bt491 => (if bt491.2 = true then (if t483 < (wrap64 (bt491.1 - t487)) then (laws_FnPairsNear.j8 kj126 t482 t487 true) else (if t487 > bt491.1 then (laws_FnPairsNear.j8 kj126 t482 t487 true) else (if t487 < 1 then (laws_FnPairsNear.j8 kj126 t482 t487 true) else (laws_FnPairsNear.j8 kj126 t482 t487 (decide (t483 < 1)))))) else (laws_FnPairsNear.j8 kj126 t482 t487 true))) = some r := by rw [if_pos rfl] at H; exact H
                          clear H; have H := H1; clear H1
                          replace H := Option.bind_eq_some_iff.mp H
                          obtain ⟨⟨t491, t492⟩, A1330, H⟩ := H
                          replace H : (if t492 = true then (if t483 < (wrap64 (t491 - t487)) then (laws_FnPairsNear.j8 kj126 t482 t487 true) else (if t487 > t491 then (laws_FnPairsNear.j8 kj126 t482 t487 true) else (if t487 < 1 then (laws_FnPairsNear.j8 kj126 t482 t487 true) else (laws_FnPairsNear.j8 kj126 t482 t487 (decide (t483 < 1)))))) else (laws_FnPairsNear.j8 kj126 t482 t487 true)) = some r := H
                          have A133 := aM A1330
                          clear A1330
                          have HC134 := aM H
                          clear H
                          go_upto_region 51 with (first | ((with_reducible refine gate_callee (f := 22) rfl ?_); refine goesL_ (some 312) rfl rfl Tryz.func22 (by kernel_rfl) rfl #[.int .i64 t482] rfl (by (try simp only [List.map_toArray, List.map_cons, List.map_nil]); first | done | rfl | (simp only [List.length_drop, List.length_take]; rfl)) ?_; (with_reducible refine (impl_MovesToClear.calls kj126 t482 t491 t492 _ A133.out).mono ?_); rintro e w135 ⟨rfl, hb⟩; refine ⟨_, rfl, ?_⟩; have n0_ := aM (below_step (by repeat (first | (with_reducible first | exact HB.out | apply bA | apply bN | apply bD) | exact HB.out)) hb); clear HB; have HB := n0_; clear n0_; (try clear hb); (try clear hb2); (try clear hk); (try clear hi)))
                          (try simp only [Act.put, sA, sB, sC])
                          go_cut [336] (fun v336 wc => ∃ (kq : Nat) (x336_133 : Bool), v336 = .bool x336_133 ∧ Aside0 (laws_FnPairsNear.j8 kq t482 t487 x336_133 = some r) ∧ Aside0 (kq ≤ kj126) ∧ Aside0 (Below w.heap.size w wc))
                          case first =>
                           as_aux_lemma =>
                            have H := HC134.out
                            clear HC134
                            by_cases c136 : t492 = true
                            ·subst c136
                             have H1 : (if t483 < (wrap64 (t491 - t487)) then (laws_FnPairsNear.j8 kj126 t482 t487 true) else (if t487 > t491 then (laws_FnPairsNear.j8 kj126 t482 t487 true) else (if t487 < 1 then (laws_FnPairsNear.j8 kj126 t482 t487 true) else (laws_FnPairsNear.j8 kj126 t482 t487 (decide (t483 < 1)))))) = some r := by rw [if_pos rfl] at H; exact H
                             clear H; have H := H1; clear H1
                             by_cases c137 : t483 < (wrap64 (t491 - t487))
                             ·rw [if_pos c137] at H
                              have c137b0 : decide (t483 < (wrap64 (t491 - t487))) = true := decide_eq_true c137
                              clear c137
                              (first | rw [c137b0] | (simp only [i64_w, i32_w]; rw [c137b0]) | skip)
                              have H' := aM H
                              clear H
                              go_wp2
                              go_meet
                              case rel => exact ⟨_, (true), (by first | rfl | (simp; done) | (simp [*]; done)), H', ⟨by have := HJ9.out; have := HJ44.out; have := HJ86.out; have := HJ110.out; have := HJ126.out; first | omega | exact Nat.le_refl _⟩, ⟨by repeat (first | (with_reducible first | exact HB.out | apply bA | apply bN | apply bD) | exact HB.out)⟩⟩
                             ·rw [if_neg c137] at H
                              have c137b0 : decide (t483 < (wrap64 (t491 - t487))) = false := decide_eq_false c137
                              clear c137
                              (first | rw [c137b0] | (simp only [i64_w, i32_w]; rw [c137b0]) | skip)
                              by_cases c138 : t487 > t491
                              ·rw [if_pos c138] at H
                               have c138b0 : decide (t491 < t487) = true := decide_eq_true c138
                               clear c138
                               have H' := aM H
                               clear H
                               go_wp2
                               go_meet
                               case rel => exact ⟨_, (true), (by first | rfl | (simp; done) | (simp [*]; done)), H', ⟨by have := HJ9.out; have := HJ44.out; have := HJ86.out; have := HJ110.out; have := HJ126.out; first | omega | exact Nat.le_refl _⟩, ⟨by repeat (first | (with_reducible first | exact HB.out | apply bA | apply bN | apply bD) | exact HB.out)⟩⟩
                              ·rw [if_neg c138] at H
                               have c138b0 : decide (t491 < t487) = false := decide_eq_false c138
                               clear c138
                               by_cases c139 : t487 < 1
                               ·rw [if_pos c139] at H
                                have c139b0 : decide (t487 < 1) = true := decide_eq_true c139
                                clear c139
                                have H' := aM H
                                clear H
                                go_wp2
                                go_meet
                                case rel => exact ⟨_, (true), (by first | rfl | (simp; done) | (simp [*]; done)), H', ⟨by have := HJ9.out; have := HJ44.out; have := HJ86.out; have := HJ110.out; have := HJ126.out; first | omega | exact Nat.le_refl _⟩, ⟨by repeat (first | (with_reducible first | exact HB.out | apply bA | apply bN | apply bD) | exact HB.out)⟩⟩
                               ·rw [if_neg c139] at H
                                have c139b0 : decide (t487 < 1) = false := decide_eq_false c139
                                clear c139
                                have H' := aM H
                                clear H
                                go_wp2
                                go_meet
                                case rel => exact ⟨_, (decide (t483 < 1)), (by first | rfl | (simp; done) | (simp [*]; done)), H', ⟨by have := HJ9.out; have := HJ44.out; have := HJ86.out; have := HJ110.out; have := HJ126.out; first | omega | exact Nat.le_refl _⟩, ⟨by repeat (first | (with_reducible first | exact HB.out | apply bA | apply bN | apply bD) | exact HB.out)⟩⟩
                            ·replace c136 := Bool.eq_false_iff.mpr c136
                             subst c136
                             have H1 : (laws_FnPairsNear.j8 kj126 t482 t487 true) = some r := by rw [if_neg (show ¬ (false = true) by decide)] at H; exact H
                             clear H; have H := H1; clear H1
                             have H' := aM H
                             clear H
                             go_wp2
                             go_meet
                             case rel => exact ⟨_, (true), (by first | rfl | (simp; done) | (simp [*]; done)), H', ⟨by have := HJ9.out; have := HJ44.out; have := HJ86.out; have := HJ110.out; have := HJ126.out; first | omega | exact Nat.le_refl _⟩, ⟨by repeat (first | (with_reducible first | exact HB.out | apply bA | apply bN | apply bD) | exact HB.out)⟩⟩
                          case rest =>
                           as_aux_lemma =>
                            clear HC134
                            try clear c1
                            try clear c2
                            try clear p2
                            try clear c3
                            try clear c4
                            try clear p4
                            try clear q4
                            try clear hx4
                            try clear c5
                            try clear c6
                            try clear p6
                            try clear c7
                            try clear c8
                            try clear c9
                            try clear c10
                            try clear c11
                            try clear c12
                            try clear c13
                            try clear c14
                            try clear c15
                            try clear c16
                            try clear c16b0
                            try clear c16b1
                            try clear c16b2
                            try clear c17
                            try clear c18
                            try clear c19
                            try clear c19b0
                            try clear c19b1
                            try clear c19b2
                            try clear c20
                            try clear c21
                            try clear c22
                            try clear c23
                            try clear c24
                            try clear c24b0
                            try clear c24b1
                            try clear c25
                            try clear c44
                            try clear c46
                            try clear p46
                            try clear q46
                            try clear hx46
                            try clear p47
                            try clear q47
                            try clear hx47
                            try clear c48
                            try clear c48b0
                            try clear c49
                            try clear c49b0
                            try clear c50
                            try clear c50b0
                            try clear c53
                            try clear c54
                            try clear c54b0
                            try clear c57
                            try clear c58
                            try clear c58b0
                            try clear p64
                            try clear c69
                            try clear c70
                            try clear c70b0
                            try clear c70b1
                            try clear c71
                            try clear c72
                            try clear c72b0
                            try clear c74
                            try clear c75
                            try clear c75b0
                            try clear c75b1
                            try clear c78
                            try clear c78b0
                            try clear c79
                            try clear c79b0
                            try clear c79b1
                            try clear c79b2
                            try clear c88
                            try clear c90
                            try clear c90b0
                            try clear c91
                            try clear c91b0
                            try clear c92
                            try clear c92b0
                            try clear c94
                            try clear c94b0
                            try clear c95
                            try clear c96
                            try clear c96b0
                            try clear c96b1
                            try clear c101
                            try clear c101b0
                            try clear c101b1
                            try clear c102
                            try clear c102b0
                            try clear c120
                            try clear c120b0
                            try clear c120b1
                            try clear c120b2
                            try clear c121
                            try clear c121b0
                            try clear c121b1
                            try clear c122
                            try clear c122b0
                            try clear c122b1
                            try clear c122b2
                            try clear c123
                            try clear c123b0
                            try clear c123b1
                            try clear c124
                            try clear c124b0
                            try clear c124b1
                            try clear c124b2
                            try clear c125
                            try clear c125b0
                            try clear c125b1
                            try clear c126
                            try clear c128
                            try clear c129
                            try clear c129b0
                            try clear c130
                            try clear c130b0
                            try clear c130b1
                            try clear c131
                            try clear c132
                            try clear c136
                            try clear c137
                            try clear c137b0
                            try clear c138
                            try clear c138b0
                            try clear c139
                            try clear c139b0
                            try clear hx463_0
                            try clear hx473_0
                            try clear p2
                            try clear p4
                            try clear p46
                            try clear p463
                            try clear p47
                            try clear p473
                            try clear p6
                            try clear p64
                            try clear q4
                            try clear q46
                            try clear q463
                            try clear q47
                            try clear q473
                            obtain ⟨kq, x336_133, rfl, HA, HJ133, HB⟩ := hcut
                            cases kq with
                            | zero => exact absurd HA.out (by simp [laws_FnPairsNear.j8])
                            | succ kj133 =>
                             have H := HA.out
                             clear HA
                             simp only [laws_FnPairsNear.j8] at H
                             by_cases c140 : x336_133 = true
                             ·subst c140
                              have H1 : (some false) = some r := by rw [if_pos rfl] at H; exact H
                              clear H; have H := H1; clear H1
                              obtain rfl := Option.some.inj H
                              go_wp2
                              go_ret
                              exact ⟨by first | rfl | (simp [errW_none, errW_some] <;> rfl) | (simp [*, errW_none, errW_some] <;> rfl), by repeat (first | (with_reducible first | exact HB.out | apply bA | apply bN | apply bD) | exact HB.out)⟩
                             ·replace c140 := Bool.eq_false_iff.mpr c140
                              subst c140
                              have H1 : (if 0 ≤ (wrap64 (t482 - 1)) then (if (Int.tmod t482 2) = 0 then (some (t487 == (wrap64 ((shl .i64 1 (wrap64 (t482 - 1))) - 1)))) else (some (t487 == (shl .i64 1 (wrap64 (t482 - 1)))))) else (none)) = some r := by rw [if_neg (show ¬ (false = true) by decide)] at H; exact H
                              clear H; have H := H1; clear H1
                              obtain ⟨ji141, hji141⟩ : ∃ j_ : Int, (wrap64 (t482 - 1)) = j_ := ⟨_, rfl⟩
                              replace H : (if 0 ≤ (ji141) then (if (Int.tmod t482 2) = 0 then (some (t487 == (wrap64 ((shl .i64 1 (ji141)) - 1)))) else (some (t487 == (shl .i64 1 (ji141))))) else (none)) = some r := by first | (rw [hji141] at H; exact H) | (simp only [hji141] at H ⊢; exact H)
                              have hji141w : (IntKind.i64.wrap (t482 - 1)) = ji141 := (i64_w _).trans hji141
                              by_cases c142 : 0 ≤ (ji141)
                              ·rw [if_pos c142] at H
                               have c142b0 := eq_true c142
                               have c142b1 : decide (0 ≤ (ji141)) = true := decide_eq_true c142
                               clear c142
                               obtain ⟨ji143, hji143⟩ : ∃ j_ : Int, (shl .i64 1 (ji141)) = j_ := ⟨_, rfl⟩
                               replace H : (if (Int.tmod t482 2) = 0 then (some (t487 == (wrap64 ((ji143) - 1)))) else (some (t487 == (ji143)))) = some r := by first | (rw [hji143] at H; exact H) | (simp only [hji143] at H ⊢; exact H)
                               have hji143_ : (IntKind.i64.wrap (1 * 2 ^ min (ji141).toNat 64)) = ji143 := hji143
                               have hji143z : (ji141) ≤ 64 → (IntKind.i64.wrap (1 * 2 ^ (ji141).toNat)) = ji143 := shl_small hji143
                               have hji143u : (IntKind.i64.wrap (2 ^ min (ji141).toNat 64)) = ji143 := by have h_ := hji143_; rw [Int.one_mul] at h_; exact h_
                               have hji143v : (ji141) ≤ 64 → (IntKind.i64.wrap (2 ^ (ji141).toNat)) = ji143 := fun hle_ => by have h_ := hji143z hle_; rw [Int.one_mul] at h_; exact h_
                               have hji143y : (wrap64 (1 * 2 ^ min (ji141).toNat 64)) = ji143 := (i64_w _).symm.trans hji143_
                               have hji143x : (ji141) ≤ 64 → (wrap64 (1 * 2 ^ (ji141).toNat)) = ji143 := fun h_ => (i64_w _).symm.trans (hji143z h_)
                               by_cases c144 : (Int.tmod t482 2) = 0
                               ·rw [if_pos c144] at H
                                have c144b0 : ((Int.tmod t482 2) == 0) = true := beq_iff_eq.mpr c144
                                have c144b1 : ((Int.tmod t482 2) != 0) = false := bne_eq_false_iff_eq.mpr c144
                                clear c144
                                obtain rfl := Option.some.inj H
                                go_wp2
                                go_ret
                                exact ⟨by first | rfl | (simp [errW_none, errW_some] <;> rfl) | (simp only [← hji141, ← hji143]; first | rfl | (simp [errW_none, errW_some] <;> rfl)) | (simp [*, errW_none, errW_some] <;> rfl), by repeat (first | (with_reducible first | exact HB.out | apply bA | apply bN | apply bD) | exact HB.out)⟩
                               ·rw [if_neg c144] at H
                                have c144b0 : ((Int.tmod t482 2) == 0) = false := beq_eq_false_iff_ne.mpr c144
                                have c144b1 : ((Int.tmod t482 2) != 0) = true := bne_iff_ne.mpr c144
                                obtain rfl := Option.some.inj H
                                go_wp2
                                go_ret
                                exact ⟨by first | rfl | (simp [errW_none, errW_some] <;> rfl) | (simp only [← hji141, ← hji143]; first | rfl | (simp [errW_none, errW_some] <;> rfl)) | (simp [*, errW_none, errW_some] <;> rfl), by repeat (first | (with_reducible first | exact HB.out | apply bA | apply bN | apply bD) | exact HB.out)⟩
                              ·rw [if_neg c142] at H
                               exact absurd H (by simp)
                        ·replace c132 := Bool.eq_false_iff.mpr c132
                         subst c132
                         have H1 : (some true) = some r := by rw [if_neg (show ¬ (false = true) by decide)] at H; exact H
                         clear H; have H := H1; clear H1
                         obtain rfl := Option.some.inj H
                         go_wp2
                         go_ret
                         exact ⟨by first | rfl | (simp [errW_none, errW_some] <;> rfl) | (simp [*, errW_none, errW_some] <;> rfl), by repeat (first | (with_reducible first | exact HB.out | apply bA | apply bN | apply bD) | exact HB.out)⟩

/-- THE ONE PURE STATEMENT of laws_FnPairsNear: yours. -/
def laws_FnPairsNear.Pure : Prop := ∀ (l0 : List Int) (l1 : List Int), l0.length ≤ maxLen → l0.length * 1 ≤ 140737488351232 → (∀ x ∈ l0, (Lit.int .u8 x).wf = true) → l1.length ≤ maxLen → l1.length * 1 ≤ 140737488351232 → (∀ x ∈ l1, (Lit.int .u8 x).wf = true) → ∃ k, laws_FnPairsNear.f k l0 l1 = some true
theorem laws_FnPairsNear.walk (P : laws_FnPairsNear.Pure) (a0 : Option Addr) (len0 cap0 : Nat) (z0 : List Int) (a1 : Option Addr) (len1 cap1 : Nat) (z1 : List Int) (w : World) (w0 : (a0 = none ∧ len0 = 0 ∧ cap0 = 0 ∧ z0 = []) ∨ ∃ x, a0 = some x ∧ len0 ≤ cap0 ∧ cap0 ≤ maxLen ∧ z0.length = cap0 ∧ (∀ i, i < z0.length → w.cell? (x.add i) = some (.int .u8 (z0.getD i 0))) ∧ ∀ n ∈ z0, (Lit.int .u8 n).wf = true) (y0 : len0 * 1 ≤ 140737488351232) (w1 : (a1 = none ∧ len1 = 0 ∧ cap1 = 0 ∧ z1 = []) ∨ ∃ x, a1 = some x ∧ len1 ≤ cap1 ∧ cap1 ≤ maxLen ∧ z1.length = cap1 ∧ (∀ i, i < z1.length → w.cell? (x.add i) = some (.int .u8 (z1.getD i 0))) ∧ ∀ n ∈ z1, (Lit.int .u8 n).wf = true) (y1 : len1 * 1 ≤ 140737488351232) :
  Calls Tryz.prog 3 #[.slice a0 len0 cap0, .slice a1 len1 cap1] w fun e w' => e = .returned (.bool true) ∧ Below w.heap.size w w' := by
 obtain ⟨l0, rfl, hr0, hm0, hw0, hc0⟩ := ReadsInt.ofRowC w0
 obtain ⟨l1, rfl, hr1, hm1, hw1, hc1⟩ := ReadsInt.ofRowC w1
 obtain ⟨k, h⟩ := P l0 l1 hm0 y0 hw0 hm1 y1 hw1
 refine (laws_FnPairsNear.calls k _ _ l0 _ _ l1 true w (Kd.C_of_reads (d := (0 : Int)) (h1 := fun _ => rfl) hr0) hc0 (Kd.C_of_reads (d := (0 : Int)) (h1 := fun _ => rfl) hr1) hc1 h).mono ?_
 rintro e w' ⟨rfl, hd⟩
 exact ⟨rfl, hd⟩

end Go.Proofs.YtgfjgpnaalblbaaGreatDoor.PN
