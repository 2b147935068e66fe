-- written by a program of this session's (wip/tools), over the kit's print
import Derived.Test.YtfejpncdjlmamaaDoorPNx0
import Derived.Test.YtfejpncdjlmamaaDoorPNx3
import Derived.Test.YtfejpncdjlmamaaDoorPNx6
import Derived.Test.YtfejpncdjlmamaaDoorPNx7
import Derived.Test.YtfejpncdjlmamaaDoorPNx8
import Derived.Test.YtfejpncdjlmamaaDoorPNx9
namespace Go.Proofs.YtfejpncdjlmamaaDoor.PN
open Go.RowKit Go.Proofs.YtfejpncdjlmamaaDoorW.PrintWords Go.Proofs.YtfejpncdjlmamaaDoorW.PrintLast Go.Proofs.YtfejpncdjlmamaaDoorW.PrintMore
attribute [local go_sem] max2_int min2_int max_two min_two max_three min_three max_four min_four   -- for this text's walks alone
set_option linter.unusedVariables false
set_option linter.unusedSimpArgs false

/-! ### laws_FnPairsNearOfAll: function 3 -/
mutual
def laws_FnPairsNearOfAll.j0 : Nat → ByteArray → Int → Int → Int → Int → List ByteArray → Bool → List ByteArray → Int → Bool → Bool → Option (Bool)
  | 0, _, _, _, _, _, _, _, _, _, _, _ => none
  | k + 1, x0, x1, x2, x3, x4, x11, x12, x15, x16, x17, x107 => if x107 = true then (some false) else (if x12 = true then (laws_FnPairsNearOfAll.l0 k x0 x1 x2 x3 x4 x11 x15 x16 x17 (-1) x11 (x11.length : Int) 0) else (laws_FnPairsNearOfAll.j3 k x0 x2 x3 x4 x15 x16 x17))
def laws_FnPairsNearOfAll.j3 : Nat → ByteArray → Int → Int → Int → List ByteArray → Int → Bool → Option (Bool)
  | 0, _, _, _, _, _, _, _ => none
  | k + 1, x0, x2, x3, x4, x15, x16, x17 => if x17 = true then (laws_FnPairsNearOfAll.l1 k x0 x2 x3 x4 x15 x16 x15 (x15.length : Int) 0) else (laws_FnPairsNearOfAll.j5 k x2 x3 x4)
def laws_FnPairsNearOfAll.j5 : Nat → Int → Int → Int → Option (Bool)
  | 0, _, _, _ => none
  | k + 1, x2, x3, x4 => (impl_CountByPairs.f k x2 x3).bind fun bt396 => ((spec_CountByPairs.f k x2 x3).bind fun bt398 => ((impl_MostSaved.f k x4).bind fun bt400 => ((spec_MostSaved.f k x4).bind fun bt402 => ((impl_PairMovesToClear.f k x4).bind fun bt404 => ((spec_PairMovesToClear.f k x4).bind fun bt406 => (if (bt396.2 != bt398.2) = true then (laws_FnPairsNearOfAll.j6 k x3 x4 bt396.1 bt396.2 bt400.1 bt400.2 bt404.1 true) else (if bt396.1 = bt398.1 then (if (bt400.2 != bt402.2) = true then (laws_FnPairsNearOfAll.j6 k x3 x4 bt396.1 bt396.2 bt400.1 bt400.2 bt404.1 true) else (if bt400.1 = bt402.1 then (if (bt404.2 != bt406.2) = true then (laws_FnPairsNearOfAll.j6 k x3 x4 bt396.1 bt396.2 bt400.1 bt400.2 bt404.1 true) else (if bt404.1 = bt406.1 then (laws_FnPairsNearOfAll.j6 k x3 x4 bt396.1 bt396.2 bt400.1 bt400.2 bt404.1 (bt404.2 != bt400.2)) else (laws_FnPairsNearOfAll.j6 k x3 x4 bt396.1 bt396.2 bt400.1 bt400.2 bt404.1 true))) else (laws_FnPairsNearOfAll.j6 k x3 x4 bt396.1 bt396.2 bt400.1 bt400.2 bt404.1 true))) else (laws_FnPairsNearOfAll.j6 k x3 x4 bt396.1 bt396.2 bt400.1 bt400.2 bt404.1 true))))))))
def laws_FnPairsNearOfAll.j6 : Nat → Int → Int → Int → Bool → Int → Bool → Int → Bool → Option (Bool)
  | 0, _, _, _, _, _, _, _, _ => none
  | k + 1, x3, x4, x34, x35, x38, x39, x42, x284 => if x284 = true then (some false) else (if x35 = true then (if x34 < 0 then (laws_FnPairsNearOfAll.j7 k x4 x38 x39 x42 true) else (if x3 = 0 then (laws_FnPairsNearOfAll.j7 k x4 x38 x39 x42 (x34 != 1)) else (laws_FnPairsNearOfAll.j7 k x4 x38 x39 x42 false))) else (laws_FnPairsNearOfAll.j7 k x4 x38 x39 x42 false))
def laws_FnPairsNearOfAll.j7 : Nat → Int → Int → Bool → Int → Bool → Option (Bool)
  | 0, _, _, _, _, _ => none
  | k + 1, x4, x38, x39, x42, x297 => if x297 = true then (some false) else (if x39 = true then ((impl_MovesToClear.f k x4).bind fun bt408 => (if bt408.2 = true then (if x38 < (wrap64 (bt408.1 - x42)) then (laws_FnPairsNearOfAll.j8 k x4 x42 true) else (if x42 > bt408.1 then (laws_FnPairsNearOfAll.j8 k x4 x42 true) else (if x42 < 1 then (laws_FnPairsNearOfAll.j8 k x4 x42 true) else (laws_FnPairsNearOfAll.j8 k x4 x42 (decide (x38 < 1)))))) else (laws_FnPairsNearOfAll.j8 k x4 x42 true))) else (some true))
def laws_FnPairsNearOfAll.j8 : Nat → Int → Int → Bool → Option (Bool)
  | 0, _, _, _ => none
  | k + 1, x4, x42, x325 => if x325 = true then (some false) else (if 0 ≤ (wrap64 (x4 - 1)) then (if (Int.tmod x4 2) = 0 then (some (x42 == (wrap64 ((shl .i64 1 (wrap64 (x4 - 1))) - 1)))) else (some (x42 == (shl .i64 1 (wrap64 (x4 - 1)))))) else (none))
def laws_FnPairsNearOfAll.l1 : Nat → ByteArray → Int → Int → Int → List ByteArray → Int → List ByteArray → Int → Int → Option (Bool)
  | 0, _, _, _, _, _, _, _, _, _ => none
  | k + 1, x0, x2, x3, x4, x15, x16, x188, x189, x190 => if x190 < x189 then (if 0 ≤ x190 then (if x190 < (x188.length : Int) then ((impl_FewestPairMoves.f k x0 (rdOf ByteArray.empty x188 x190)).bind fun bt394 => (if x190 < 4 then (if bt394.2 = true then (if bt394.1 = x16 then (laws_FnPairsNearOfAll.l1 k x0 x2 x3 x4 x15 x16 x188 x189 (wrap64 (x190 + 1))) else (some false)) else (some false)) else (laws_FnPairsNearOfAll.l1 k x0 x2 x3 x4 x15 x16 x188 x189 (wrap64 (x190 + 1))))) else (none)) else (none)) else (if (x15.length : Int) < 1 then (some false) else (if x16 < 1 then (some false) else (laws_FnPairsNearOfAll.j5 k x2 x3 x4)))
def laws_FnPairsNearOfAll.l0 : Nat → ByteArray → Int → Int → Int → Int → List ByteArray → List ByteArray → Int → Bool → Int → List ByteArray → Int → Int → Option (Bool)
  | 0, _, _, _, _, _, _, _, _, _, _, _, _, _ => none
  | k + 1, x0, x1, x2, x3, x4, x11, x15, x16, x17, x21, x109, x110, x111 => if x111 < x110 then (if 0 ≤ x111 then (if x111 < (x109.length : Int) then ((impl_NumberOfState.f k (rdOf ByteArray.empty x109 x111)).bind fun bt384 => ((impl_FewestPairMoves.f k x0 (rdOf ByteArray.empty x109 x111)).bind fun bt386 => (if bt384.2 = true then (if bt384.1 ≤ x21 then (some false) else (if bt386.2 = true then (if bt386.1 > x1 then (some false) else (laws_FnPairsNearOfAll.l0 k x0 x1 x2 x3 x4 x11 x15 x16 x17 bt384.1 x109 x110 (wrap64 (x111 + 1)))) else (some false))) else (some false)))) else (none)) else (none)) else ((laws_yText.f k x11 x0).bind fun t388 => (if t388 = true then (if x1 = 0 then (laws_FnPairsNearOfAll.j2 k x0 x1 x2 x3 x4 x11 x15 x16 x17 ((x11.length : Int) != 1)) else (laws_FnPairsNearOfAll.j2 k x0 x1 x2 x3 x4 x11 x15 x16 x17 false)) else (laws_FnPairsNearOfAll.j2 k x0 x1 x2 x3 x4 x11 x15 x16 x17 true)))
def laws_FnPairsNearOfAll.j2 : Nat → ByteArray → Int → Int → Int → Int → List ByteArray → List ByteArray → Int → Bool → Bool → Option (Bool)
  | 0, _, _, _, _, _, _, _, _, _, _ => none
  | k + 1, x0, x1, x2, x3, x4, x11, x15, x16, x17, x156 => if x156 = true then (some false) else (if x1 > 0 then ((impl_NearByPairs.f k x0 (wrap64 (x1 - 1))).bind fun bt389 => (if bt389.2 = true then (if (bt389.1.length : Int) > (x11.length : Int) then (some false) else (if x1 ≤ x16 then (if (bt389.1.length : Int) = (x11.length : Int) then (some false) else (laws_FnPairsNearOfAll.j3 k x0 x2 x3 x4 x15 x16 x17)) else (laws_FnPairsNearOfAll.j3 k x0 x2 x3 x4 x15 x16 x17))) else (some false))) else (laws_FnPairsNearOfAll.j3 k x0 x2 x3 x4 x15 x16 x17))
end
def laws_FnPairsNearOfAll.f (k : Nat) (a0 : ByteArray) (a1 : Int) (a2 : Int) (a3 : Int) (a4 : Int) : Option (Bool) := if (a0.size : Int) > 1048576 then (some true) else ((impl_NearByPairs.f k a0 a1).bind fun bt363 => ((spec_NearByPairs.f k a0 a1).bind fun bt367 => ((impl_FarthestByPairs.f k a0).bind fun bt371 => ((spec_FarthestByPairs.f k a0).bind fun bt376 => (if (bt363.2 != bt367.2) = true then (laws_FnPairsNearOfAll.j0 k a0 a1 a2 a3 a4 bt363.1 bt363.2 bt371.1 bt371.2.1 bt371.2.2 true) else ((laws_yTexts.f k bt363.1 bt367.1).bind fun t381 => (if t381 = true then (if (bt371.2.2 != bt376.2.2) = true then (laws_FnPairsNearOfAll.j0 k a0 a1 a2 a3 a4 bt363.1 bt363.2 bt371.1 bt371.2.1 bt371.2.2 true) else ((laws_yTexts.f k bt371.1 bt376.1).bind fun t382 => (if t382 = true then (if bt371.2.1 = bt376.2.1 then (if bt363.2 = true then (laws_FnPairsNearOfAll.j0 k a0 a1 a2 a3 a4 bt363.1 bt363.2 bt371.1 bt371.2.1 bt371.2.2 (!bt371.2.2)) else (laws_FnPairsNearOfAll.j0 k a0 a1 a2 a3 a4 bt363.1 bt363.2 bt371.1 bt371.2.1 bt371.2.2 false)) else (laws_FnPairsNearOfAll.j0 k a0 a1 a2 a3 a4 bt363.1 bt363.2 bt371.1 bt371.2.1 bt371.2.2 true)) else (laws_FnPairsNearOfAll.j0 k a0 a1 a2 a3 a4 bt363.1 bt363.2 bt371.1 bt371.2.1 bt371.2.2 true)))) else (laws_FnPairsNearOfAll.j0 k a0 a1 a2 a3 a4 bt363.1 bt363.2 bt371.1 bt371.2.1 bt371.2.2 true))))))))
theorem laws_FnPairsNearOfAll.mono_l : ∀ k, (∀ y0 y1 y2 y3 y4 y5 y6 y7 y8 y9 y10, LeO (laws_FnPairsNearOfAll.j0 k y0 y1 y2 y3 y4 y5 y6 y7 y8 y9 y10) (laws_FnPairsNearOfAll.j0 (k + 1) y0 y1 y2 y3 y4 y5 y6 y7 y8 y9 y10)) ∧ (∀ y0 y1 y2 y3 y4 y5 y6, LeO (laws_FnPairsNearOfAll.j3 k y0 y1 y2 y3 y4 y5 y6) (laws_FnPairsNearOfAll.j3 (k + 1) y0 y1 y2 y3 y4 y5 y6)) ∧ (∀ y0 y1 y2, LeO (laws_FnPairsNearOfAll.j5 k y0 y1 y2) (laws_FnPairsNearOfAll.j5 (k + 1) y0 y1 y2)) ∧ (∀ y0 y1 y2 y3 y4 y5 y6 y7, LeO (laws_FnPairsNearOfAll.j6 k y0 y1 y2 y3 y4 y5 y6 y7) (laws_FnPairsNearOfAll.j6 (k + 1) y0 y1 y2 y3 y4 y5 y6 y7)) ∧ (∀ y0 y1 y2 y3 y4, LeO (laws_FnPairsNearOfAll.j7 k y0 y1 y2 y3 y4) (laws_FnPairsNearOfAll.j7 (k + 1) y0 y1 y2 y3 y4)) ∧ (∀ y0 y1 y2, LeO (laws_FnPairsNearOfAll.j8 k y0 y1 y2) (laws_FnPairsNearOfAll.j8 (k + 1) y0 y1 y2)) ∧ (∀ y0 y1 y2 y3 y4 y5 y6 y7 y8, LeO (laws_FnPairsNearOfAll.l1 k y0 y1 y2 y3 y4 y5 y6 y7 y8) (laws_FnPairsNearOfAll.l1 (k + 1) y0 y1 y2 y3 y4 y5 y6 y7 y8)) ∧ (∀ y0 y1 y2 y3 y4 y5 y6 y7 y8 y9 y10 y11 y12, LeO (laws_FnPairsNearOfAll.l0 k y0 y1 y2 y3 y4 y5 y6 y7 y8 y9 y10 y11 y12) (laws_FnPairsNearOfAll.l0 (k + 1) y0 y1 y2 y3 y4 y5 y6 y7 y8 y9 y10 y11 y12)) ∧ (∀ y0 y1 y2 y3 y4 y5 y6 y7 y8 y9, LeO (laws_FnPairsNearOfAll.j2 k y0 y1 y2 y3 y4 y5 y6 y7 y8 y9) (laws_FnPairsNearOfAll.j2 (k + 1) y0 y1 y2 y3 y4 y5 y6 y7 y8 y9))
  | 0 => ⟨fun _ _ _ _ _ _ _ _ _ _ _ r h => by simp [laws_FnPairsNearOfAll.j0] at h, fun _ _ _ _ _ _ _ r h => by simp [laws_FnPairsNearOfAll.j3] at h, fun _ _ _ r h => by simp [laws_FnPairsNearOfAll.j5] at h, fun _ _ _ _ _ _ _ _ r h => by simp [laws_FnPairsNearOfAll.j6] at h, fun _ _ _ _ _ r h => by simp [laws_FnPairsNearOfAll.j7] at h, fun _ _ _ r h => by simp [laws_FnPairsNearOfAll.j8] at h, fun _ _ _ _ _ _ _ _ _ r h => by simp [laws_FnPairsNearOfAll.l1] at h, fun _ _ _ _ _ _ _ _ _ _ _ _ _ r h => by simp [laws_FnPairsNearOfAll.l0] at h, fun _ _ _ _ _ _ _ _ _ _ r h => by simp [laws_FnPairsNearOfAll.j2] at h⟩
  | k + 1 => by
    obtain ⟨ih0, ih1, ih2, ih3, ih4, ih5, ih6, ih7, ih8⟩ := laws_FnPairsNearOfAll.mono_l k
    refine ⟨?_, ?_, ?_, ?_, ?_, ?_, ?_, ?_, ?_⟩
    · intro y0 y1 y2 y3 y4 y5 y6 y7 y8 y9 y10
      unfold laws_FnPairsNearOfAll.j0
      repeat' first
      | (with_reducible exact ih0 _ _ _ _ _ _ _ _ _ _ _)
      | (with_reducible exact ih1 _ _ _ _ _ _ _)
      | (with_reducible exact ih2 _ _ _)
      | (with_reducible exact ih3 _ _ _ _ _ _ _ _)
      | (with_reducible exact ih4 _ _ _ _ _)
      | (with_reducible exact ih5 _ _ _)
      | (with_reducible exact ih6 _ _ _ _ _ _ _ _ _)
      | (with_reducible exact ih7 _ _ _ _ _ _ _ _ _ _ _ _ _)
      | (with_reducible exact ih8 _ _ _ _ _ _ _ _ _ _)
      | (with_reducible exact impl_CountByPairs.mono _ _ _)
      | (with_reducible exact impl_FarthestByPairs.mono _ _)
      | (with_reducible exact impl_FewestPairMoves.mono _ _ _)
      | (with_reducible exact impl_MostSaved.mono _ _)
      | (with_reducible exact impl_MovesToClear.mono _ _)
      | (with_reducible exact impl_NearByPairs.mono _ _ _)
      | (with_reducible exact impl_NumberOfState.mono _ _)
      | (with_reducible exact impl_PairMovesToClear.mono _ _)
      | (with_reducible exact laws_yText.mono _ _ _)
      | (with_reducible exact laws_yTexts.mono _ _ _)
      | (with_reducible exact spec_CountByPairs.mono _ _ _)
      | (with_reducible exact spec_FarthestByPairs.mono _ _)
      | (with_reducible exact spec_MostSaved.mono _ _)
      | (with_reducible exact spec_NearByPairs.mono _ _ _)
      | (with_reducible exact spec_PairMovesToClear.mono _ _)
      | (with_reducible exact LeO.refl _)
      | (with_reducible exact LeO.none _)
      | (with_reducible refine LeO.ite ?_ ?_)
      | (with_reducible refine LeO.bind ?_ (fun _ => ?_))
      | exact ih0 _ _ _ _ _ _ _ _ _ _ _
      | exact ih1 _ _ _ _ _ _ _
      | exact ih2 _ _ _
      | exact ih3 _ _ _ _ _ _ _ _
      | exact ih4 _ _ _ _ _
      | exact ih5 _ _ _
      | exact ih6 _ _ _ _ _ _ _ _ _
      | exact ih7 _ _ _ _ _ _ _ _ _ _ _ _ _
      | exact ih8 _ _ _ _ _ _ _ _ _ _
      | exact impl_CountByPairs.mono _ _ _
      | exact impl_FarthestByPairs.mono _ _
      | exact impl_FewestPairMoves.mono _ _ _
      | exact impl_MostSaved.mono _ _
      | exact impl_MovesToClear.mono _ _
      | exact impl_NearByPairs.mono _ _ _
      | exact impl_NumberOfState.mono _ _
      | exact impl_PairMovesToClear.mono _ _
      | exact laws_yText.mono _ _ _
      | exact laws_yTexts.mono _ _ _
      | exact spec_CountByPairs.mono _ _ _
      | exact spec_FarthestByPairs.mono _ _
      | exact spec_MostSaved.mono _ _
      | exact spec_NearByPairs.mono _ _ _
      | exact spec_PairMovesToClear.mono _ _
      | exact LeO.none _
      | refine LeO.ite ?_ ?_
      | refine LeO.bind ?_ (fun _ => ?_)
    · intro y0 y1 y2 y3 y4 y5 y6
      unfold laws_FnPairsNearOfAll.j3
      repeat' first
      | (with_reducible exact ih0 _ _ _ _ _ _ _ _ _ _ _)
      | (with_reducible exact ih1 _ _ _ _ _ _ _)
      | (with_reducible exact ih2 _ _ _)
      | (with_reducible exact ih3 _ _ _ _ _ _ _ _)
      | (with_reducible exact ih4 _ _ _ _ _)
      | (with_reducible exact ih5 _ _ _)
      | (with_reducible exact ih6 _ _ _ _ _ _ _ _ _)
      | (with_reducible exact ih7 _ _ _ _ _ _ _ _ _ _ _ _ _)
      | (with_reducible exact ih8 _ _ _ _ _ _ _ _ _ _)
      | (with_reducible exact impl_CountByPairs.mono _ _ _)
      | (with_reducible exact impl_FarthestByPairs.mono _ _)
      | (with_reducible exact impl_FewestPairMoves.mono _ _ _)
      | (with_reducible exact impl_MostSaved.mono _ _)
      | (with_reducible exact impl_MovesToClear.mono _ _)
      | (with_reducible exact impl_NearByPairs.mono _ _ _)
      | (with_reducible exact impl_NumberOfState.mono _ _)
      | (with_reducible exact impl_PairMovesToClear.mono _ _)
      | (with_reducible exact laws_yText.mono _ _ _)
      | (with_reducible exact laws_yTexts.mono _ _ _)
      | (with_reducible exact spec_CountByPairs.mono _ _ _)
      | (with_reducible exact spec_FarthestByPairs.mono _ _)
      | (with_reducible exact spec_MostSaved.mono _ _)
      | (with_reducible exact spec_NearByPairs.mono _ _ _)
      | (with_reducible exact spec_PairMovesToClear.mono _ _)
      | (with_reducible exact LeO.refl _)
      | (with_reducible exact LeO.none _)
      | (with_reducible refine LeO.ite ?_ ?_)
      | (with_reducible refine LeO.bind ?_ (fun _ => ?_))
      | exact ih0 _ _ _ _ _ _ _ _ _ _ _
      | exact ih1 _ _ _ _ _ _ _
      | exact ih2 _ _ _
      | exact ih3 _ _ _ _ _ _ _ _
      | exact ih4 _ _ _ _ _
      | exact ih5 _ _ _
      | exact ih6 _ _ _ _ _ _ _ _ _
      | exact ih7 _ _ _ _ _ _ _ _ _ _ _ _ _
      | exact ih8 _ _ _ _ _ _ _ _ _ _
      | exact impl_CountByPairs.mono _ _ _
      | exact impl_FarthestByPairs.mono _ _
      | exact impl_FewestPairMoves.mono _ _ _
      | exact impl_MostSaved.mono _ _
      | exact impl_MovesToClear.mono _ _
      | exact impl_NearByPairs.mono _ _ _
      | exact impl_NumberOfState.mono _ _
      | exact impl_PairMovesToClear.mono _ _
      | exact laws_yText.mono _ _ _
      | exact laws_yTexts.mono _ _ _
      | exact spec_CountByPairs.mono _ _ _
      | exact spec_FarthestByPairs.mono _ _
      | exact spec_MostSaved.mono _ _
      | exact spec_NearByPairs.mono _ _ _
      | exact spec_PairMovesToClear.mono _ _
      | exact LeO.none _
      | refine LeO.ite ?_ ?_
      | refine LeO.bind ?_ (fun _ => ?_)
    · intro y0 y1 y2
      unfold laws_FnPairsNearOfAll.j5
      repeat' first
      | (with_reducible exact ih0 _ _ _ _ _ _ _ _ _ _ _)
      | (with_reducible exact ih1 _ _ _ _ _ _ _)
      | (with_reducible exact ih2 _ _ _)
      | (with_reducible exact ih3 _ _ _ _ _ _ _ _)
      | (with_reducible exact ih4 _ _ _ _ _)
      | (with_reducible exact ih5 _ _ _)
      | (with_reducible exact ih6 _ _ _ _ _ _ _ _ _)
      | (with_reducible exact ih7 _ _ _ _ _ _ _ _ _ _ _ _ _)
      | (with_reducible exact ih8 _ _ _ _ _ _ _ _ _ _)
      | (with_reducible exact impl_CountByPairs.mono _ _ _)
      | (with_reducible exact impl_FarthestByPairs.mono _ _)
      | (with_reducible exact impl_FewestPairMoves.mono _ _ _)
      | (with_reducible exact impl_MostSaved.mono _ _)
      | (with_reducible exact impl_MovesToClear.mono _ _)
      | (with_reducible exact impl_NearByPairs.mono _ _ _)
      | (with_reducible exact impl_NumberOfState.mono _ _)
      | (with_reducible exact impl_PairMovesToClear.mono _ _)
      | (with_reducible exact laws_yText.mono _ _ _)
      | (with_reducible exact laws_yTexts.mono _ _ _)
      | (with_reducible exact spec_CountByPairs.mono _ _ _)
      | (with_reducible exact spec_FarthestByPairs.mono _ _)
      | (with_reducible exact spec_MostSaved.mono _ _)
      | (with_reducible exact spec_NearByPairs.mono _ _ _)
      | (with_reducible exact spec_PairMovesToClear.mono _ _)
      | (with_reducible exact LeO.refl _)
      | (with_reducible exact LeO.none _)
      | (with_reducible refine LeO.ite ?_ ?_)
      | (with_reducible refine LeO.bind ?_ (fun _ => ?_))
      | exact ih0 _ _ _ _ _ _ _ _ _ _ _
      | exact ih1 _ _ _ _ _ _ _
      | exact ih2 _ _ _
      | exact ih3 _ _ _ _ _ _ _ _
      | exact ih4 _ _ _ _ _
      | exact ih5 _ _ _
      | exact ih6 _ _ _ _ _ _ _ _ _
      | exact ih7 _ _ _ _ _ _ _ _ _ _ _ _ _
      | exact ih8 _ _ _ _ _ _ _ _ _ _
      | exact impl_CountByPairs.mono _ _ _
      | exact impl_FarthestByPairs.mono _ _
      | exact impl_FewestPairMoves.mono _ _ _
      | exact impl_MostSaved.mono _ _
      | exact impl_MovesToClear.mono _ _
      | exact impl_NearByPairs.mono _ _ _
      | exact impl_NumberOfState.mono _ _
      | exact impl_PairMovesToClear.mono _ _
      | exact laws_yText.mono _ _ _
      | exact laws_yTexts.mono _ _ _
      | exact spec_CountByPairs.mono _ _ _
      | exact spec_FarthestByPairs.mono _ _
      | exact spec_MostSaved.mono _ _
      | exact spec_NearByPairs.mono _ _ _
      | exact spec_PairMovesToClear.mono _ _
      | exact LeO.none _
      | refine LeO.ite ?_ ?_
      | refine LeO.bind ?_ (fun _ => ?_)
    · intro y0 y1 y2 y3 y4 y5 y6 y7
      unfold laws_FnPairsNearOfAll.j6
      repeat' first
      | (with_reducible exact ih0 _ _ _ _ _ _ _ _ _ _ _)
      | (with_reducible exact ih1 _ _ _ _ _ _ _)
      | (with_reducible exact ih2 _ _ _)
      | (with_reducible exact ih3 _ _ _ _ _ _ _ _)
      | (with_reducible exact ih4 _ _ _ _ _)
      | (with_reducible exact ih5 _ _ _)
      | (with_reducible exact ih6 _ _ _ _ _ _ _ _ _)
      | (with_reducible exact ih7 _ _ _ _ _ _ _ _ _ _ _ _ _)
      | (with_reducible exact ih8 _ _ _ _ _ _ _ _ _ _)
      | (with_reducible exact impl_CountByPairs.mono _ _ _)
      | (with_reducible exact impl_FarthestByPairs.mono _ _)
      | (with_reducible exact impl_FewestPairMoves.mono _ _ _)
      | (with_reducible exact impl_MostSaved.mono _ _)
      | (with_reducible exact impl_MovesToClear.mono _ _)
      | (with_reducible exact impl_NearByPairs.mono _ _ _)
      | (with_reducible exact impl_NumberOfState.mono _ _)
      | (with_reducible exact impl_PairMovesToClear.mono _ _)
      | (with_reducible exact laws_yText.mono _ _ _)
      | (with_reducible exact laws_yTexts.mono _ _ _)
      | (with_reducible exact spec_CountByPairs.mono _ _ _)
      | (with_reducible exact spec_FarthestByPairs.mono _ _)
      | (with_reducible exact spec_MostSaved.mono _ _)
      | (with_reducible exact spec_NearByPairs.mono _ _ _)
      | (with_reducible exact spec_PairMovesToClear.mono _ _)
      | (with_reducible exact LeO.refl _)
      | (with_reducible exact LeO.none _)
      | (with_reducible refine LeO.ite ?_ ?_)
      | (with_reducible refine LeO.bind ?_ (fun _ => ?_))
      | exact ih0 _ _ _ _ _ _ _ _ _ _ _
      | exact ih1 _ _ _ _ _ _ _
      | exact ih2 _ _ _
      | exact ih3 _ _ _ _ _ _ _ _
      | exact ih4 _ _ _ _ _
      | exact ih5 _ _ _
      | exact ih6 _ _ _ _ _ _ _ _ _
      | exact ih7 _ _ _ _ _ _ _ _ _ _ _ _ _
      | exact ih8 _ _ _ _ _ _ _ _ _ _
      | exact impl_CountByPairs.mono _ _ _
      | exact impl_FarthestByPairs.mono _ _
      | exact impl_FewestPairMoves.mono _ _ _
      | exact impl_MostSaved.mono _ _
      | exact impl_MovesToClear.mono _ _
      | exact impl_NearByPairs.mono _ _ _
      | exact impl_NumberOfState.mono _ _
      | exact impl_PairMovesToClear.mono _ _
      | exact laws_yText.mono _ _ _
      | exact laws_yTexts.mono _ _ _
      | exact spec_CountByPairs.mono _ _ _
      | exact spec_FarthestByPairs.mono _ _
      | exact spec_MostSaved.mono _ _
      | exact spec_NearByPairs.mono _ _ _
      | exact spec_PairMovesToClear.mono _ _
      | exact LeO.none _
      | refine LeO.ite ?_ ?_
      | refine LeO.bind ?_ (fun _ => ?_)
    · intro y0 y1 y2 y3 y4
      unfold laws_FnPairsNearOfAll.j7
      repeat' first
      | (with_reducible exact ih0 _ _ _ _ _ _ _ _ _ _ _)
      | (with_reducible exact ih1 _ _ _ _ _ _ _)
      | (with_reducible exact ih2 _ _ _)
      | (with_reducible exact ih3 _ _ _ _ _ _ _ _)
      | (with_reducible exact ih4 _ _ _ _ _)
      | (with_reducible exact ih5 _ _ _)
      | (with_reducible exact ih6 _ _ _ _ _ _ _ _ _)
      | (with_reducible exact ih7 _ _ _ _ _ _ _ _ _ _ _ _ _)
      | (with_reducible exact ih8 _ _ _ _ _ _ _ _ _ _)
      | (with_reducible exact impl_CountByPairs.mono _ _ _)
      | (with_reducible exact impl_FarthestByPairs.mono _ _)
      | (with_reducible exact impl_FewestPairMoves.mono _ _ _)
      | (with_reducible exact impl_MostSaved.mono _ _)
      | (with_reducible exact impl_MovesToClear.mono _ _)
      | (with_reducible exact impl_NearByPairs.mono _ _ _)
      | (with_reducible exact impl_NumberOfState.mono _ _)
      | (with_reducible exact impl_PairMovesToClear.mono _ _)
      | (with_reducible exact laws_yText.mono _ _ _)
      | (with_reducible exact laws_yTexts.mono _ _ _)
      | (with_reducible exact spec_CountByPairs.mono _ _ _)
      | (with_reducible exact spec_FarthestByPairs.mono _ _)
      | (with_reducible exact spec_MostSaved.mono _ _)
      | (with_reducible exact spec_NearByPairs.mono _ _ _)
      | (with_reducible exact spec_PairMovesToClear.mono _ _)
      | (with_reducible exact LeO.refl _)
      | (with_reducible exact LeO.none _)
      | (with_reducible refine LeO.ite ?_ ?_)
      | (with_reducible refine LeO.bind ?_ (fun _ => ?_))
      | exact ih0 _ _ _ _ _ _ _ _ _ _ _
      | exact ih1 _ _ _ _ _ _ _
      | exact ih2 _ _ _
      | exact ih3 _ _ _ _ _ _ _ _
      | exact ih4 _ _ _ _ _
      | exact ih5 _ _ _
      | exact ih6 _ _ _ _ _ _ _ _ _
      | exact ih7 _ _ _ _ _ _ _ _ _ _ _ _ _
      | exact ih8 _ _ _ _ _ _ _ _ _ _
      | exact impl_CountByPairs.mono _ _ _
      | exact impl_FarthestByPairs.mono _ _
      | exact impl_FewestPairMoves.mono _ _ _
      | exact impl_MostSaved.mono _ _
      | exact impl_MovesToClear.mono _ _
      | exact impl_NearByPairs.mono _ _ _
      | exact impl_NumberOfState.mono _ _
      | exact impl_PairMovesToClear.mono _ _
      | exact laws_yText.mono _ _ _
      | exact laws_yTexts.mono _ _ _
      | exact spec_CountByPairs.mono _ _ _
      | exact spec_FarthestByPairs.mono _ _
      | exact spec_MostSaved.mono _ _
      | exact spec_NearByPairs.mono _ _ _
      | exact spec_PairMovesToClear.mono _ _
      | exact LeO.none _
      | refine LeO.ite ?_ ?_
      | refine LeO.bind ?_ (fun _ => ?_)
    · intro y0 y1 y2
      unfold laws_FnPairsNearOfAll.j8
      repeat' first
      | (with_reducible exact ih0 _ _ _ _ _ _ _ _ _ _ _)
      | (with_reducible exact ih1 _ _ _ _ _ _ _)
      | (with_reducible exact ih2 _ _ _)
      | (with_reducible exact ih3 _ _ _ _ _ _ _ _)
      | (with_reducible exact ih4 _ _ _ _ _)
      | (with_reducible exact ih5 _ _ _)
      | (with_reducible exact ih6 _ _ _ _ _ _ _ _ _)
      | (with_reducible exact ih7 _ _ _ _ _ _ _ _ _ _ _ _ _)
      | (with_reducible exact ih8 _ _ _ _ _ _ _ _ _ _)
      | (with_reducible exact impl_CountByPairs.mono _ _ _)
      | (with_reducible exact impl_FarthestByPairs.mono _ _)
      | (with_reducible exact impl_FewestPairMoves.mono _ _ _)
      | (with_reducible exact impl_MostSaved.mono _ _)
      | (with_reducible exact impl_MovesToClear.mono _ _)
      | (with_reducible exact impl_NearByPairs.mono _ _ _)
      | (with_reducible exact impl_NumberOfState.mono _ _)
      | (with_reducible exact impl_PairMovesToClear.mono _ _)
      | (with_reducible exact laws_yText.mono _ _ _)
      | (with_reducible exact laws_yTexts.mono _ _ _)
      | (with_reducible exact spec_CountByPairs.mono _ _ _)
      | (with_reducible exact spec_FarthestByPairs.mono _ _)
      | (with_reducible exact spec_MostSaved.mono _ _)
      | (with_reducible exact spec_NearByPairs.mono _ _ _)
      | (with_reducible exact spec_PairMovesToClear.mono _ _)
      | (with_reducible exact LeO.refl _)
      | (with_reducible exact LeO.none _)
      | (with_reducible refine LeO.ite ?_ ?_)
      | (with_reducible refine LeO.bind ?_ (fun _ => ?_))
      | exact ih0 _ _ _ _ _ _ _ _ _ _ _
      | exact ih1 _ _ _ _ _ _ _
      | exact ih2 _ _ _
      | exact ih3 _ _ _ _ _ _ _ _
      | exact ih4 _ _ _ _ _
      | exact ih5 _ _ _
      | exact ih6 _ _ _ _ _ _ _ _ _
      | exact ih7 _ _ _ _ _ _ _ _ _ _ _ _ _
      | exact ih8 _ _ _ _ _ _ _ _ _ _
      | exact impl_CountByPairs.mono _ _ _
      | exact impl_FarthestByPairs.mono _ _
      | exact impl_FewestPairMoves.mono _ _ _
      | exact impl_MostSaved.mono _ _
      | exact impl_MovesToClear.mono _ _
      | exact impl_NearByPairs.mono _ _ _
      | exact impl_NumberOfState.mono _ _
      | exact impl_PairMovesToClear.mono _ _
      | exact laws_yText.mono _ _ _
      | exact laws_yTexts.mono _ _ _
      | exact spec_CountByPairs.mono _ _ _
      | exact spec_FarthestByPairs.mono _ _
      | exact spec_MostSaved.mono _ _
      | exact spec_NearByPairs.mono _ _ _
      | exact spec_PairMovesToClear.mono _ _
      | exact LeO.none _
      | refine LeO.ite ?_ ?_
      | refine LeO.bind ?_ (fun _ => ?_)
    · intro y0 y1 y2 y3 y4 y5 y6 y7 y8
      unfold laws_FnPairsNearOfAll.l1
      repeat' first
      | (with_reducible exact ih0 _ _ _ _ _ _ _ _ _ _ _)
      | (with_reducible exact ih1 _ _ _ _ _ _ _)
      | (with_reducible exact ih2 _ _ _)
      | (with_reducible exact ih3 _ _ _ _ _ _ _ _)
      | (with_reducible exact ih4 _ _ _ _ _)
      | (with_reducible exact ih5 _ _ _)
      | (with_reducible exact ih6 _ _ _ _ _ _ _ _ _)
      | (with_reducible exact ih7 _ _ _ _ _ _ _ _ _ _ _ _ _)
      | (with_reducible exact ih8 _ _ _ _ _ _ _ _ _ _)
      | (with_reducible exact impl_CountByPairs.mono _ _ _)
      | (with_reducible exact impl_FarthestByPairs.mono _ _)
      | (with_reducible exact impl_FewestPairMoves.mono _ _ _)
      | (with_reducible exact impl_MostSaved.mono _ _)
      | (with_reducible exact impl_MovesToClear.mono _ _)
      | (with_reducible exact impl_NearByPairs.mono _ _ _)
      | (with_reducible exact impl_NumberOfState.mono _ _)
      | (with_reducible exact impl_PairMovesToClear.mono _ _)
      | (with_reducible exact laws_yText.mono _ _ _)
      | (with_reducible exact laws_yTexts.mono _ _ _)
      | (with_reducible exact spec_CountByPairs.mono _ _ _)
      | (with_reducible exact spec_FarthestByPairs.mono _ _)
      | (with_reducible exact spec_MostSaved.mono _ _)
      | (with_reducible exact spec_NearByPairs.mono _ _ _)
      | (with_reducible exact spec_PairMovesToClear.mono _ _)
      | (with_reducible exact LeO.refl _)
      | (with_reducible exact LeO.none _)
      | (with_reducible refine LeO.ite ?_ ?_)
      | (with_reducible refine LeO.bind ?_ (fun _ => ?_))
      | exact ih0 _ _ _ _ _ _ _ _ _ _ _
      | exact ih1 _ _ _ _ _ _ _
      | exact ih2 _ _ _
      | exact ih3 _ _ _ _ _ _ _ _
      | exact ih4 _ _ _ _ _
      | exact ih5 _ _ _
      | exact ih6 _ _ _ _ _ _ _ _ _
      | exact ih7 _ _ _ _ _ _ _ _ _ _ _ _ _
      | exact ih8 _ _ _ _ _ _ _ _ _ _
      | exact impl_CountByPairs.mono _ _ _
      | exact impl_FarthestByPairs.mono _ _
      | exact impl_FewestPairMoves.mono _ _ _
      | exact impl_MostSaved.mono _ _
      | exact impl_MovesToClear.mono _ _
      | exact impl_NearByPairs.mono _ _ _
      | exact impl_NumberOfState.mono _ _
      | exact impl_PairMovesToClear.mono _ _
      | exact laws_yText.mono _ _ _
      | exact laws_yTexts.mono _ _ _
      | exact spec_CountByPairs.mono _ _ _
      | exact spec_FarthestByPairs.mono _ _
      | exact spec_MostSaved.mono _ _
      | exact spec_NearByPairs.mono _ _ _
      | exact spec_PairMovesToClear.mono _ _
      | exact LeO.none _
      | refine LeO.ite ?_ ?_
      | refine LeO.bind ?_ (fun _ => ?_)
    · intro y0 y1 y2 y3 y4 y5 y6 y7 y8 y9 y10 y11 y12
      unfold laws_FnPairsNearOfAll.l0
      repeat' first
      | (with_reducible exact ih0 _ _ _ _ _ _ _ _ _ _ _)
      | (with_reducible exact ih1 _ _ _ _ _ _ _)
      | (with_reducible exact ih2 _ _ _)
      | (with_reducible exact ih3 _ _ _ _ _ _ _ _)
      | (with_reducible exact ih4 _ _ _ _ _)
      | (with_reducible exact ih5 _ _ _)
      | (with_reducible exact ih6 _ _ _ _ _ _ _ _ _)
      | (with_reducible exact ih7 _ _ _ _ _ _ _ _ _ _ _ _ _)
      | (with_reducible exact ih8 _ _ _ _ _ _ _ _ _ _)
      | (with_reducible exact impl_CountByPairs.mono _ _ _)
      | (with_reducible exact impl_FarthestByPairs.mono _ _)
      | (with_reducible exact impl_FewestPairMoves.mono _ _ _)
      | (with_reducible exact impl_MostSaved.mono _ _)
      | (with_reducible exact impl_MovesToClear.mono _ _)
      | (with_reducible exact impl_NearByPairs.mono _ _ _)
      | (with_reducible exact impl_NumberOfState.mono _ _)
      | (with_reducible exact impl_PairMovesToClear.mono _ _)
      | (with_reducible exact laws_yText.mono _ _ _)
      | (with_reducible exact laws_yTexts.mono _ _ _)
      | (with_reducible exact spec_CountByPairs.mono _ _ _)
      | (with_reducible exact spec_FarthestByPairs.mono _ _)
      | (with_reducible exact spec_MostSaved.mono _ _)
      | (with_reducible exact spec_NearByPairs.mono _ _ _)
      | (with_reducible exact spec_PairMovesToClear.mono _ _)
      | (with_reducible exact LeO.refl _)
      | (with_reducible exact LeO.none _)
      | (with_reducible refine LeO.ite ?_ ?_)
      | (with_reducible refine LeO.bind ?_ (fun _ => ?_))
      | exact ih0 _ _ _ _ _ _ _ _ _ _ _
      | exact ih1 _ _ _ _ _ _ _
      | exact ih2 _ _ _
      | exact ih3 _ _ _ _ _ _ _ _
      | exact ih4 _ _ _ _ _
      | exact ih5 _ _ _
      | exact ih6 _ _ _ _ _ _ _ _ _
      | exact ih7 _ _ _ _ _ _ _ _ _ _ _ _ _
      | exact ih8 _ _ _ _ _ _ _ _ _ _
      | exact impl_CountByPairs.mono _ _ _
      | exact impl_FarthestByPairs.mono _ _
      | exact impl_FewestPairMoves.mono _ _ _
      | exact impl_MostSaved.mono _ _
      | exact impl_MovesToClear.mono _ _
      | exact impl_NearByPairs.mono _ _ _
      | exact impl_NumberOfState.mono _ _
      | exact impl_PairMovesToClear.mono _ _
      | exact laws_yText.mono _ _ _
      | exact laws_yTexts.mono _ _ _
      | exact spec_CountByPairs.mono _ _ _
      | exact spec_FarthestByPairs.mono _ _
      | exact spec_MostSaved.mono _ _
      | exact spec_NearByPairs.mono _ _ _
      | exact spec_PairMovesToClear.mono _ _
      | exact LeO.none _
      | refine LeO.ite ?_ ?_
      | refine LeO.bind ?_ (fun _ => ?_)
    · intro y0 y1 y2 y3 y4 y5 y6 y7 y8 y9
      unfold laws_FnPairsNearOfAll.j2
      repeat' first
      | (with_reducible exact ih0 _ _ _ _ _ _ _ _ _ _ _)
      | (with_reducible exact ih1 _ _ _ _ _ _ _)
      | (with_reducible exact ih2 _ _ _)
      | (with_reducible exact ih3 _ _ _ _ _ _ _ _)
      | (with_reducible exact ih4 _ _ _ _ _)
      | (with_reducible exact ih5 _ _ _)
      | (with_reducible exact ih6 _ _ _ _ _ _ _ _ _)
      | (with_reducible exact ih7 _ _ _ _ _ _ _ _ _ _ _ _ _)
      | (with_reducible exact ih8 _ _ _ _ _ _ _ _ _ _)
      | (with_reducible exact impl_CountByPairs.mono _ _ _)
      | (with_reducible exact impl_FarthestByPairs.mono _ _)
      | (with_reducible exact impl_FewestPairMoves.mono _ _ _)
      | (with_reducible exact impl_MostSaved.mono _ _)
      | (with_reducible exact impl_MovesToClear.mono _ _)
      | (with_reducible exact impl_NearByPairs.mono _ _ _)
      | (with_reducible exact impl_NumberOfState.mono _ _)
      | (with_reducible exact impl_PairMovesToClear.mono _ _)
      | (with_reducible exact laws_yText.mono _ _ _)
      | (with_reducible exact laws_yTexts.mono _ _ _)
      | (with_reducible exact spec_CountByPairs.mono _ _ _)
      | (with_reducible exact spec_FarthestByPairs.mono _ _)
      | (with_reducible exact spec_MostSaved.mono _ _)
      | (with_reducible exact spec_NearByPairs.mono _ _ _)
      | (with_reducible exact spec_PairMovesToClear.mono _ _)
      | (with_reducible exact LeO.refl _)
      | (with_reducible exact LeO.none _)
      | (with_reducible refine LeO.ite ?_ ?_)
      | (with_reducible refine LeO.bind ?_ (fun _ => ?_))
      | exact ih0 _ _ _ _ _ _ _ _ _ _ _
      | exact ih1 _ _ _ _ _ _ _
      | exact ih2 _ _ _
      | exact ih3 _ _ _ _ _ _ _ _
      | exact ih4 _ _ _ _ _
      | exact ih5 _ _ _
      | exact ih6 _ _ _ _ _ _ _ _ _
      | exact ih7 _ _ _ _ _ _ _ _ _ _ _ _ _
      | exact ih8 _ _ _ _ _ _ _ _ _ _
      | exact impl_CountByPairs.mono _ _ _
      | exact impl_FarthestByPairs.mono _ _
      | exact impl_FewestPairMoves.mono _ _ _
      | exact impl_MostSaved.mono _ _
      | exact impl_MovesToClear.mono _ _
      | exact impl_NearByPairs.mono _ _ _
      | exact impl_NumberOfState.mono _ _
      | exact impl_PairMovesToClear.mono _ _
      | exact laws_yText.mono _ _ _
      | exact laws_yTexts.mono _ _ _
      | exact spec_CountByPairs.mono _ _ _
      | exact spec_FarthestByPairs.mono _ _
      | exact spec_MostSaved.mono _ _
      | exact spec_NearByPairs.mono _ _ _
      | exact spec_PairMovesToClear.mono _ _
      | exact LeO.none _
      | refine LeO.ite ?_ ?_
      | refine LeO.bind ?_ (fun _ => ?_)
theorem laws_FnPairsNearOfAll.mono : ∀ a0 a1 a2 a3 a4 k, LeO (laws_FnPairsNearOfAll.f k a0 a1 a2 a3 a4) (laws_FnPairsNearOfAll.f (k + 1) a0 a1 a2 a3 a4) := by
  intro a0 a1 a2 a3 a4 k
  obtain ⟨ih0, ih1, ih2, ih3, ih4, ih5, ih6, ih7, ih8⟩ := laws_FnPairsNearOfAll.mono_l k
  unfold laws_FnPairsNearOfAll.f
  repeat' first
      | (with_reducible exact ih0 _ _ _ _ _ _ _ _ _ _ _)
      | (with_reducible exact ih1 _ _ _ _ _ _ _)
      | (with_reducible exact ih2 _ _ _)
      | (with_reducible exact ih3 _ _ _ _ _ _ _ _)
      | (with_reducible exact ih4 _ _ _ _ _)
      | (with_reducible exact ih5 _ _ _)
      | (with_reducible exact ih6 _ _ _ _ _ _ _ _ _)
      | (with_reducible exact ih7 _ _ _ _ _ _ _ _ _ _ _ _ _)
      | (with_reducible exact ih8 _ _ _ _ _ _ _ _ _ _)
      | (with_reducible exact impl_CountByPairs.mono _ _ _)
      | (with_reducible exact impl_FarthestByPairs.mono _ _)
      | (with_reducible exact impl_FewestPairMoves.mono _ _ _)
      | (with_reducible exact impl_MostSaved.mono _ _)
      | (with_reducible exact impl_MovesToClear.mono _ _)
      | (with_reducible exact impl_NearByPairs.mono _ _ _)
      | (with_reducible exact impl_NumberOfState.mono _ _)
      | (with_reducible exact impl_PairMovesToClear.mono _ _)
      | (with_reducible exact laws_yText.mono _ _ _)
      | (with_reducible exact laws_yTexts.mono _ _ _)
      | (with_reducible exact spec_CountByPairs.mono _ _ _)
      | (with_reducible exact spec_FarthestByPairs.mono _ _)
      | (with_reducible exact spec_MostSaved.mono _ _)
      | (with_reducible exact spec_NearByPairs.mono _ _ _)
      | (with_reducible exact spec_PairMovesToClear.mono _ _)
      | (with_reducible exact LeO.refl _)
      | (with_reducible exact LeO.none _)
      | (with_reducible refine LeO.ite ?_ ?_)
      | (with_reducible refine LeO.bind ?_ (fun _ => ?_))
      | exact ih0 _ _ _ _ _ _ _ _ _ _ _
      | exact ih1 _ _ _ _ _ _ _
      | exact ih2 _ _ _
      | exact ih3 _ _ _ _ _ _ _ _
      | exact ih4 _ _ _ _ _
      | exact ih5 _ _ _
      | exact ih6 _ _ _ _ _ _ _ _ _
      | exact ih7 _ _ _ _ _ _ _ _ _ _ _ _ _
      | exact ih8 _ _ _ _ _ _ _ _ _ _
      | exact impl_CountByPairs.mono _ _ _
      | exact impl_FarthestByPairs.mono _ _
      | exact impl_FewestPairMoves.mono _ _ _
      | exact impl_MostSaved.mono _ _
      | exact impl_MovesToClear.mono _ _
      | exact impl_NearByPairs.mono _ _ _
      | exact impl_NumberOfState.mono _ _
      | exact impl_PairMovesToClear.mono _ _
      | exact laws_yText.mono _ _ _
      | exact laws_yTexts.mono _ _ _
      | exact spec_CountByPairs.mono _ _ _
      | exact spec_FarthestByPairs.mono _ _
      | exact spec_MostSaved.mono _ _
      | exact spec_NearByPairs.mono _ _ _
      | exact spec_PairMovesToClear.mono _ _
      | exact LeO.none _
      | refine LeO.ite ?_ ?_
      | refine LeO.bind ?_ (fun _ => ?_)
set_option maxHeartbeats 8000000 in
set_option maxRecDepth 100000 in
theorem laws_FnPairsNearOfAll.calls (k : Nat) (a0 : ByteArray) (a1 : Int) (a2 : Int) (a3 : Int) (a4 : Int) (r : Bool) (w : World) (h : laws_FnPairsNearOfAll.f k a0 a1 a2 a3 a4 = some r) :
    Calls Tryd.prog 3 #[.string a0, .int .i64 a1, .int .i64 a2, .int .i64 a3, .int .i64 a4] w fun e w' => e = .returned (.bool r) ∧ Below w.heap.size w w' := by
  have HB := Aside0.mk (Below.refl w.heap.size w)
  have H : (if (a0.size : Int) > 1048576 then (some true) else ((impl_NearByPairs.f k a0 a1).bind fun bt363 => ((spec_NearByPairs.f k a0 a1).bind fun bt367 => ((impl_FarthestByPairs.f k a0).bind fun bt371 => ((spec_FarthestByPairs.f k a0).bind fun bt376 => (if (bt363.2 != bt367.2) = true then (laws_FnPairsNearOfAll.j0 k a0 a1 a2 a3 a4 bt363.1 bt363.2 bt371.1 bt371.2.1 bt371.2.2 true) else ((laws_yTexts.f k bt363.1 bt367.1).bind fun t381 => (if t381 = true then (if (bt371.2.2 != bt376.2.2) = true then (laws_FnPairsNearOfAll.j0 k a0 a1 a2 a3 a4 bt363.1 bt363.2 bt371.1 bt371.2.1 bt371.2.2 true) else ((laws_yTexts.f k bt371.1 bt376.1).bind fun t382 => (if t382 = true then (if bt371.2.1 = bt376.2.1 then (if bt363.2 = true then (laws_FnPairsNearOfAll.j0 k a0 a1 a2 a3 a4 bt363.1 bt363.2 bt371.1 bt371.2.1 bt371.2.2 (!bt371.2.2)) else (laws_FnPairsNearOfAll.j0 k a0 a1 a2 a3 a4 bt363.1 bt363.2 bt371.1 bt371.2.1 bt371.2.2 false)) else (laws_FnPairsNearOfAll.j0 k a0 a1 a2 a3 a4 bt363.1 bt363.2 bt371.1 bt371.2.1 bt371.2.2 true)) else (laws_FnPairsNearOfAll.j0 k a0 a1 a2 a3 a4 bt363.1 bt363.2 bt371.1 bt371.2.1 bt371.2.2 true)))) else (laws_FnPairsNearOfAll.j0 k a0 a1 a2 a3 a4 bt363.1 bt363.2 bt371.1 bt371.2.1 bt371.2.2 true))))))))) = some r := h
  clear h
  by_cases c6 : (a0.size : Int) > 1048576
  · rw [if_pos c6] at H
    have c6b0 : decide (1048576 < (a0.size : Int)) = true := decide_eq_true c6
    have c6b1 : decide (1048576 < a0.size) = true := decide_eq_true (by omega)
    clear c6
    obtain rfl := Option.some.inj H
    go_enter Tryd.func3, Tryd.ntmps3
    go_wp2
    go_ret
    exact ⟨by first | rfl | (simp [errW_none, errW_some] <;> rfl) | (simp [*, errW_none, errW_some] <;> rfl), by repeat (first | (with_reducible first | exact HB.out | apply below_alloc | apply pw_below_drewN | apply below_drew1) | exact HB.out)⟩
  · as_aux_lemma =>
      rw [if_neg c6] at H
      have c6b0 : decide (1048576 < (a0.size : Int)) = false := decide_eq_false c6
      have c6b1 : decide (1048576 < a0.size) = false := decide_eq_false (by omega)
      clear c6
      replace H := Option.bind_eq_some_iff.mp H
      obtain ⟨⟨t363, t364⟩, A70, H⟩ := H
      replace H : ((spec_NearByPairs.f k a0 a1).bind fun bt367 => ((impl_FarthestByPairs.f k a0).bind fun bt371 => ((spec_FarthestByPairs.f k a0).bind fun bt376 => (if (t364 != bt367.2) = true then (laws_FnPairsNearOfAll.j0 k a0 a1 a2 a3 a4 t363 t364 bt371.1 bt371.2.1 bt371.2.2 true) else ((laws_yTexts.f k t363 bt367.1).bind fun t381 => (if t381 = true then (if (bt371.2.2 != bt376.2.2) = true then (laws_FnPairsNearOfAll.j0 k a0 a1 a2 a3 a4 t363 t364 bt371.1 bt371.2.1 bt371.2.2 true) else ((laws_yTexts.f k bt371.1 bt376.1).bind fun t382 => (if t382 = true then (if bt371.2.1 = bt376.2.1 then (if t364 = true then (laws_FnPairsNearOfAll.j0 k a0 a1 a2 a3 a4 t363 t364 bt371.1 bt371.2.1 bt371.2.2 (!bt371.2.2)) else (laws_FnPairsNearOfAll.j0 k a0 a1 a2 a3 a4 t363 t364 bt371.1 bt371.2.1 bt371.2.2 false)) else (laws_FnPairsNearOfAll.j0 k a0 a1 a2 a3 a4 t363 t364 bt371.1 bt371.2.1 bt371.2.2 true)) else (laws_FnPairsNearOfAll.j0 k a0 a1 a2 a3 a4 t363 t364 bt371.1 bt371.2.1 bt371.2.2 true)))) else (laws_FnPairsNearOfAll.j0 k a0 a1 a2 a3 a4 t363 t364 bt371.1 bt371.2.1 bt371.2.2 true))))))) = some r := H
      have A7 := Aside0.mk A70
      clear A70
      replace H := Option.bind_eq_some_iff.mp H
      obtain ⟨⟨t367, t368⟩, A80, H⟩ := H
      replace H : ((impl_FarthestByPairs.f k a0).bind fun bt371 => ((spec_FarthestByPairs.f k a0).bind fun bt376 => (if (t364 != t368) = true then (laws_FnPairsNearOfAll.j0 k a0 a1 a2 a3 a4 t363 t364 bt371.1 bt371.2.1 bt371.2.2 true) else ((laws_yTexts.f k t363 t367).bind fun t381 => (if t381 = true then (if (bt371.2.2 != bt376.2.2) = true then (laws_FnPairsNearOfAll.j0 k a0 a1 a2 a3 a4 t363 t364 bt371.1 bt371.2.1 bt371.2.2 true) else ((laws_yTexts.f k bt371.1 bt376.1).bind fun t382 => (if t382 = true then (if bt371.2.1 = bt376.2.1 then (if t364 = true then (laws_FnPairsNearOfAll.j0 k a0 a1 a2 a3 a4 t363 t364 bt371.1 bt371.2.1 bt371.2.2 (!bt371.2.2)) else (laws_FnPairsNearOfAll.j0 k a0 a1 a2 a3 a4 t363 t364 bt371.1 bt371.2.1 bt371.2.2 false)) else (laws_FnPairsNearOfAll.j0 k a0 a1 a2 a3 a4 t363 t364 bt371.1 bt371.2.1 bt371.2.2 true)) else (laws_FnPairsNearOfAll.j0 k a0 a1 a2 a3 a4 t363 t364 bt371.1 bt371.2.1 bt371.2.2 true)))) else (laws_FnPairsNearOfAll.j0 k a0 a1 a2 a3 a4 t363 t364 bt371.1 bt371.2.1 bt371.2.2 true)))))) = some r := H
      have A8 := Aside0.mk A80
      clear A80
      replace H := Option.bind_eq_some_iff.mp H
      obtain ⟨⟨t371, t372, t373⟩, A90, H⟩ := H
      replace H : ((spec_FarthestByPairs.f k a0).bind fun bt376 => (if (t364 != t368) = true then (laws_FnPairsNearOfAll.j0 k a0 a1 a2 a3 a4 t363 t364 t371 t372 t373 true) else ((laws_yTexts.f k t363 t367).bind fun t381 => (if t381 = true then (if (t373 != bt376.2.2) = true then (laws_FnPairsNearOfAll.j0 k a0 a1 a2 a3 a4 t363 t364 t371 t372 t373 true) else ((laws_yTexts.f k t371 bt376.1).bind fun t382 => (if t382 = true then (if t372 = bt376.2.1 then (if t364 = true then (laws_FnPairsNearOfAll.j0 k a0 a1 a2 a3 a4 t363 t364 t371 t372 t373 (!t373)) else (laws_FnPairsNearOfAll.j0 k a0 a1 a2 a3 a4 t363 t364 t371 t372 t373 false)) else (laws_FnPairsNearOfAll.j0 k a0 a1 a2 a3 a4 t363 t364 t371 t372 t373 true)) else (laws_FnPairsNearOfAll.j0 k a0 a1 a2 a3 a4 t363 t364 t371 t372 t373 true)))) else (laws_FnPairsNearOfAll.j0 k a0 a1 a2 a3 a4 t363 t364 t371 t372 t373 true))))) = some r := H
      have A9 := Aside0.mk A90
      clear A90
      replace H := Option.bind_eq_some_iff.mp H
      obtain ⟨⟨t376, t377, t378⟩, A100, H⟩ := H
      replace H : (if (t364 != t368) = true then (laws_FnPairsNearOfAll.j0 k a0 a1 a2 a3 a4 t363 t364 t371 t372 t373 true) else ((laws_yTexts.f k t363 t367).bind fun t381 => (if t381 = true then (if (t373 != t378) = true then (laws_FnPairsNearOfAll.j0 k a0 a1 a2 a3 a4 t363 t364 t371 t372 t373 true) else ((laws_yTexts.f k t371 t376).bind fun t382 => (if t382 = true then (if t372 = t377 then (if t364 = true then (laws_FnPairsNearOfAll.j0 k a0 a1 a2 a3 a4 t363 t364 t371 t372 t373 (!t373)) else (laws_FnPairsNearOfAll.j0 k a0 a1 a2 a3 a4 t363 t364 t371 t372 t373 false)) else (laws_FnPairsNearOfAll.j0 k a0 a1 a2 a3 a4 t363 t364 t371 t372 t373 true)) else (laws_FnPairsNearOfAll.j0 k a0 a1 a2 a3 a4 t363 t364 t371 t372 t373 true)))) else (laws_FnPairsNearOfAll.j0 k a0 a1 a2 a3 a4 t363 t364 t371 t372 t373 true)))) = some r := H
      have A10 := Aside0.mk A100
      clear A100
      have HC11 := Aside0.mk H
      clear H
      go_enter Tryd.func3, Tryd.ntmps3
      go_upto_region 7 with (first | ((with_reducible refine gate_callee (f := 4) rfl ?_); refine goesL_ (some 55) rfl rfl Tryd.func4 (by kernel_rfl) rfl #[.string a0, .int .i64 a1] rfl (by (try simp only [List.map_toArray, List.map_cons, List.map_nil]); first | done | rfl | (simp only [List.length_drop, List.length_take]; rfl)) ?_; (with_reducible refine (impl_NearByPairs.calls k a0 a1 t363 t364 _ A7.out).mono ?_); rintro e w12 ⟨v365, rfl, ho0, hb⟩; refine ⟨_, rfl, ?_⟩; have n0_ := Aside0.mk (Kd.R_lower ho0 (below_size (by repeat (first | (with_reducible first | exact HB.out | apply below_alloc | apply pw_below_drewN | apply below_drew1) | exact HB.out)))); have n1_ := Aside0.mk (below_step (by repeat (first | (with_reducible first | exact HB.out | apply below_alloc | apply pw_below_drewN | apply below_drew1) | exact HB.out)) hb); clear HB; have HO366 := n0_; have HB := n1_; clear n0_ n1_; (try clear hb); (try clear hb2); (try clear hk); (try clear hi); (try clear ho0)) | ((with_reducible refine gate_callee (f := 5) rfl ?_); refine goesL_ (some 61) rfl rfl Tryd.func5 (by kernel_rfl) rfl #[.string a0, .int .i64 a1] rfl (by (try simp only [List.map_toArray, List.map_cons, List.map_nil]); first | done | rfl | (simp only [List.length_drop, List.length_take]; rfl)) ?_; (with_reducible refine (spec_NearByPairs.calls k a0 a1 t367 t368 _ A8.out).mono ?_); rintro e w13 ⟨v369, rfl, ho0, hb⟩; refine ⟨_, rfl, ?_⟩; have n0_ := Aside0.mk (Kd.R_elder' (by (with_reducible repeat (first | apply Kd.R_alloc | apply Kd.R_drewN | apply Kd.R_drew)); exact HO366.out) (Kd.R_base ho0) hb); have n1_ := Aside0.mk (Kd.R_lower (Kd.R_new' ho0 (Kd.R_lt (by (with_reducible repeat (first | apply Kd.R_alloc | apply Kd.R_drewN | apply Kd.R_drew)); exact HO366.out))) (below_size (by repeat (first | (with_reducible first | exact HB.out | apply below_alloc | apply pw_below_drewN | apply below_drew1) | exact HB.out)))); have n2_ := Aside0.mk (below_step (by repeat (first | (with_reducible first | exact HB.out | apply below_alloc | apply pw_below_drewN | apply below_drew1) | exact HB.out)) hb); clear HO366; clear HB; have HO366 := n0_; have HO370 := n1_; have HB := n2_; clear n0_ n1_ n2_; (try clear hb); (try clear hb2); (try clear hk); (try clear hi); (try clear ho0)) | ((with_reducible refine gate_callee (f := 6) rfl ?_); refine goesL_ (some 66) rfl rfl Tryd.func6 (by kernel_rfl) rfl #[.string a0] rfl (by (try simp only [List.map_toArray, List.map_cons, List.map_nil]); first | done | rfl | (simp only [List.length_drop, List.length_take]; rfl)) ?_; (with_reducible refine (impl_FarthestByPairs.calls k a0 t371 t372 t373 _ A9.out).mono ?_); rintro e w14 ⟨v374, rfl, ho0, hb⟩; refine ⟨_, rfl, ?_⟩; have n0_ := Aside0.mk (Kd.R_elder' (by (with_reducible repeat (first | apply Kd.R_alloc | apply Kd.R_drewN | apply Kd.R_drew)); exact HO366.out) (Kd.R_base ho0) hb); have n1_ := Aside0.mk (Kd.R_elder' (by (with_reducible repeat (first | apply Kd.R_alloc | apply Kd.R_drewN | apply Kd.R_drew)); exact HO370.out) (Kd.R_base ho0) hb); have n2_ := Aside0.mk (Kd.R_lower (Kd.R_new' (Kd.R_new' ho0 (Kd.R_lt (by (with_reducible repeat (first | apply Kd.R_alloc | apply Kd.R_drewN | apply Kd.R_drew)); exact HO366.out))) (Kd.R_lt (by (with_reducible repeat (first | apply Kd.R_alloc | apply Kd.R_drewN | apply Kd.R_drew)); exact HO370.out))) (below_size (by repeat (first | (with_reducible first | exact HB.out | apply below_alloc | apply pw_below_drewN | apply below_drew1) | exact HB.out)))); have n3_ := Aside0.mk (below_step (by repeat (first | (with_reducible first | exact HB.out | apply below_alloc | apply pw_below_drewN | apply below_drew1) | exact HB.out)) hb); clear HO366; clear HO370; clear HB; have HO366 := n0_; have HO370 := n1_; have HO375 := n2_; have HB := n3_; clear n0_ n1_ n2_ n3_; (try clear hb); (try clear hb2); (try clear hk); (try clear hi); (try clear ho0)) | ((with_reducible refine gate_callee (f := 7) rfl ?_); refine goesL_ (some 72) rfl rfl Tryd.func7 (by kernel_rfl) rfl #[.string a0] rfl (by (try simp only [List.map_toArray, List.map_cons, List.map_nil]); first | done | rfl | (simp only [List.length_drop, List.length_take]; rfl)) ?_; (with_reducible refine (spec_FarthestByPairs.calls k a0 t376 t377 t378 _ A10.out).mono ?_); rintro e w15 ⟨v379, rfl, ho0, hb⟩; refine ⟨_, rfl, ?_⟩; have n0_ := Aside0.mk (Kd.R_elder' (by (with_reducible repeat (first | apply Kd.R_alloc | apply Kd.R_drewN | apply Kd.R_drew)); exact HO366.out) (Kd.R_base ho0) hb); have n1_ := Aside0.mk (Kd.R_elder' (by (with_reducible repeat (first | apply Kd.R_alloc | apply Kd.R_drewN | apply Kd.R_drew)); exact HO370.out) (Kd.R_base ho0) hb); have n2_ := Aside0.mk (Kd.R_elder' (by (with_reducible repeat (first | apply Kd.R_alloc | apply Kd.R_drewN | apply Kd.R_drew)); exact HO375.out) (Kd.R_base ho0) hb); have n3_ := Aside0.mk (Kd.R_lower (Kd.R_new' (Kd.R_new' (Kd.R_new' ho0 (Kd.R_lt (by (with_reducible repeat (first | apply Kd.R_alloc | apply Kd.R_drewN | apply Kd.R_drew)); exact HO366.out))) (Kd.R_lt (by (with_reducible repeat (first | apply Kd.R_alloc | apply Kd.R_drewN | apply Kd.R_drew)); exact HO370.out))) (Kd.R_lt (by (with_reducible repeat (first | apply Kd.R_alloc | apply Kd.R_drewN | apply Kd.R_drew)); exact HO375.out))) (below_size (by repeat (first | (with_reducible first | exact HB.out | apply below_alloc | apply pw_below_drewN | apply below_drew1) | exact HB.out)))); have n4_ := Aside0.mk (below_step (by repeat (first | (with_reducible first | exact HB.out | apply below_alloc | apply pw_below_drewN | apply below_drew1) | exact HB.out)) hb); clear HO366; clear HO370; clear HO375; clear HB; have HO366 := n0_; have HO370 := n1_; have HO375 := n2_; have HO380 := n3_; have HB := n4_; clear n0_ n1_ n2_ n3_ n4_; (try clear hb); (try clear hb2); (try clear hk); (try clear hi); (try clear ho0)))
      (try simp only [Act.put, List.setIfInBounds_toArray, List.set_cons_zero, List.set_cons_succ])
      go_cut [107] (fun v107 wc => ∃ (kq : Nat) (x107_10 : Bool), v107 = .bool x107_10 ∧ Aside0 (laws_FnPairsNearOfAll.j0 kq a0 a1 a2 a3 a4 t363 t364 t371 t372 t373 x107_10 = some r) ∧ Aside0 (kq ≤ k) ∧ Aside0 (Kd.R Kd.string 9 wc w.heap.size (fun k_ => some k_ ≠ (v374 : Value).ownBlock) v365 t363) ∧ Aside0 (Kd.R Kd.string 9 wc w.heap.size (fun k_ => some k_ ≠ (v365 : Value).ownBlock) v374 t371) ∧ Aside0 (Below w.heap.size w wc))
      case first =>
        as_aux_lemma =>
          have H := HC11.out
          clear HC11
          by_cases c16 : (t364 != t368) = true
          · rw [if_pos c16] at H
            have c16b0 : (t364 != t368) = true := c16
            (try (have c16b1 : decide (t364 = t368) = false := by simpa using c16))
            (try (have c16b2 : (t364 == t368) = false := by simpa using c16))
            (try (have c16b3 : ¬ (t364 = t368) := by simpa using c16))
            clear c16
            (first | rw [c16b0] | (simp only [i64_w, i32_w]; rw [c16b0]) | skip)
            have H' := Aside0.mk H
            clear H
            go_wp2
            go_meet
            case rel => exact ⟨_, (true), (by first | rfl | (simp; done) | (simp [*]; done)), H', ⟨by first | omega | exact Nat.le_refl _⟩, ⟨by (with_reducible repeat (first | apply Kd.R_alloc | apply Kd.R_drewN | apply Kd.R_drew)); exact Kd.R_mono HO366.out (fun _ hk => hk.1.2)⟩, ⟨by (with_reducible repeat (first | apply Kd.R_alloc | apply Kd.R_drewN | apply Kd.R_drew)); exact Kd.R_mono HO375.out (fun _ hk => hk.1.1.2)⟩, ⟨by repeat (first | (with_reducible first | exact HB.out | apply below_alloc | apply pw_below_drewN | apply below_drew1) | exact HB.out)⟩⟩
          · as_aux_lemma =>
              rw [if_neg c16] at H
              have c16b0 : (t364 != t368) = false := by simpa using c16
              (try (have c16b1 : decide (t364 = t368) = true := by simpa using c16))
              (try (have c16b2 : (t364 == t368) = true := by simpa using c16))
              clear c16
              (first | rw [c16b0] | (simp only [i64_w, i32_w]; rw [c16b0]) | skip)
              replace H := Option.bind_eq_some_iff.mp H
              obtain ⟨t381, A170, H⟩ := H
              replace H : (if t381 = true then (if (t373 != t378) = true then (laws_FnPairsNearOfAll.j0 k a0 a1 a2 a3 a4 t363 t364 t371 t372 t373 true) else ((laws_yTexts.f k t371 t376).bind fun t382 => (if t382 = true then (if t372 = t377 then (if t364 = true then (laws_FnPairsNearOfAll.j0 k a0 a1 a2 a3 a4 t363 t364 t371 t372 t373 (!t373)) else (laws_FnPairsNearOfAll.j0 k a0 a1 a2 a3 a4 t363 t364 t371 t372 t373 false)) else (laws_FnPairsNearOfAll.j0 k a0 a1 a2 a3 a4 t363 t364 t371 t372 t373 true)) else (laws_FnPairsNearOfAll.j0 k a0 a1 a2 a3 a4 t363 t364 t371 t372 t373 true)))) else (laws_FnPairsNearOfAll.j0 k a0 a1 a2 a3 a4 t363 t364 t371 t372 t373 true)) = some r := H
              have A17 := Aside0.mk A170
              clear A170
              by_cases c18 : t381 = true
              · as_aux_lemma =>
                  subst c18
                  have H1 : (if (t373 != t378) = true then (laws_FnPairsNearOfAll.j0 k a0 a1 a2 a3 a4 t363 t364 t371 t372 t373 true) else ((laws_yTexts.f k t371 t376).bind fun t382 => (if t382 = true then (if t372 = t377 then (if t364 = true then (laws_FnPairsNearOfAll.j0 k a0 a1 a2 a3 a4 t363 t364 t371 t372 t373 (!t373)) else (laws_FnPairsNearOfAll.j0 k a0 a1 a2 a3 a4 t363 t364 t371 t372 t373 false)) else (laws_FnPairsNearOfAll.j0 k a0 a1 a2 a3 a4 t363 t364 t371 t372 t373 true)) else (laws_FnPairsNearOfAll.j0 k a0 a1 a2 a3 a4 t363 t364 t371 t372 t373 true)))) = some r := by rw [if_pos rfl] at H; exact H
                  clear H
                  have H := H1
                  clear H1
                  by_cases c19 : (t373 != t378) = true
                  · rw [if_pos c19] at H
                    have c19b0 : (t373 != t378) = true := c19
                    (try (have c19b1 : decide (t373 = t378) = false := by simpa using c19))
                    (try (have c19b2 : (t373 == t378) = false := by simpa using c19))
                    (try (have c19b3 : ¬ (t373 = t378) := by simpa using c19))
                    clear c19
                    have H' := Aside0.mk H
                    clear H
                    obtain ⟨Ao20, co20, eo20⟩ := Kd.R_slice HO366.out
                    subst eo20
                    obtain ⟨Ao21, co21, eo21⟩ := Kd.R_slice HO370.out
                    subst eo21
                    go_wp2_with (first | (go_at_call 8; (with_reducible refine (laws_yTexts.calls k _ _ t363 _ _ t367 true _ ?side1 ?side2 ?side3 ?side4 A17.out).mono ?_); (case side1 => repeat (first | exact (Kd.R_reads' HO366.out).2.2 | (with_reducible refine Kd.C_alloc ?_ _) | (with_reducible refine Kd.C_drewN ?_ _) | (with_reducible refine Kd.C_drew ?_))); (case side2 => exact (Kd.R_reads' HO366.out).2.1); (case side3 => repeat (first | exact (Kd.R_reads' HO370.out).2.2 | (with_reducible refine Kd.C_alloc ?_ _) | (with_reducible refine Kd.C_drewN ?_ _) | (with_reducible refine Kd.C_drew ?_))); (case side4 => exact (Kd.R_reads' HO370.out).2.1); rintro e w' ⟨rfl, ⟨nd, rfl⟩⟩))
                    go_meet
                    case rel => exact ⟨_, (true), (by first | rfl | (simp; done) | (simp [*]; done)), H', ⟨by first | omega | exact Nat.le_refl _⟩, ⟨by (with_reducible repeat (first | apply Kd.R_alloc | apply Kd.R_drewN | apply Kd.R_drew)); exact Kd.R_mono HO366.out (fun _ hk => hk.1.2)⟩, ⟨by (with_reducible repeat (first | apply Kd.R_alloc | apply Kd.R_drewN | apply Kd.R_drew)); exact Kd.R_mono HO375.out (fun _ hk => hk.1.1.2)⟩, ⟨by repeat (first | (with_reducible first | exact HB.out | apply below_alloc | apply pw_below_drewN | apply below_drew1) | exact HB.out)⟩⟩
                  · as_aux_lemma =>
                      rw [if_neg c19] at H
                      have c19b0 : (t373 != t378) = false := by simpa using c19
                      (try (have c19b1 : decide (t373 = t378) = true := by simpa using c19))
                      (try (have c19b2 : (t373 == t378) = true := by simpa using c19))
                      clear c19
                      replace H := Option.bind_eq_some_iff.mp H
                      obtain ⟨t382, A220, H⟩ := H
                      replace H : (if t382 = true then (if t372 = t377 then (if t364 = true then (laws_FnPairsNearOfAll.j0 k a0 a1 a2 a3 a4 t363 t364 t371 t372 t373 (!t373)) else (laws_FnPairsNearOfAll.j0 k a0 a1 a2 a3 a4 t363 t364 t371 t372 t373 false)) else (laws_FnPairsNearOfAll.j0 k a0 a1 a2 a3 a4 t363 t364 t371 t372 t373 true)) else (laws_FnPairsNearOfAll.j0 k a0 a1 a2 a3 a4 t363 t364 t371 t372 t373 true)) = some r := H
                      have A22 := Aside0.mk A220
                      clear A220
                      by_cases c23 : t382 = true
                      · subst c23
                        have H1 : (if t372 = t377 then (if t364 = true then (laws_FnPairsNearOfAll.j0 k a0 a1 a2 a3 a4 t363 t364 t371 t372 t373 (!t373)) else (laws_FnPairsNearOfAll.j0 k a0 a1 a2 a3 a4 t363 t364 t371 t372 t373 false)) else (laws_FnPairsNearOfAll.j0 k a0 a1 a2 a3 a4 t363 t364 t371 t372 t373 true)) = some r := by rw [if_pos rfl] at H; exact H
                        clear H
                        have H := H1
                        clear H1
                        by_cases c24 : t372 = t377
                        · rw [if_pos c24] at H
                          have c24b0 : (t372 == t377) = true := beq_iff_eq.mpr c24
                          have c24b1 : (t372 != t377) = false := bne_eq_false_iff_eq.mpr c24
                          clear c24
                          by_cases c25 : t364 = true
                          · subst c25
                            have H1 : (laws_FnPairsNearOfAll.j0 k a0 a1 a2 a3 a4 t363 true t371 t372 t373 (!t373)) = some r := by rw [if_pos rfl] at H; exact H
                            clear H
                            have H := H1
                            clear H1
                            have H' := Aside0.mk H
                            clear H
                            obtain ⟨Ao26, co26, eo26⟩ := Kd.R_slice HO366.out
                            subst eo26
                            obtain ⟨Ao27, co27, eo27⟩ := Kd.R_slice HO370.out
                            subst eo27
                            go_wp2_with (first | (go_at_call 8; (with_reducible refine (laws_yTexts.calls k _ _ t363 _ _ t367 true _ ?side1 ?side2 ?side3 ?side4 A17.out).mono ?_); (case side1 => repeat (first | exact (Kd.R_reads' HO366.out).2.2 | (with_reducible refine Kd.C_alloc ?_ _) | (with_reducible refine Kd.C_drewN ?_ _) | (with_reducible refine Kd.C_drew ?_))); (case side2 => exact (Kd.R_reads' HO366.out).2.1); (case side3 => repeat (first | exact (Kd.R_reads' HO370.out).2.2 | (with_reducible refine Kd.C_alloc ?_ _) | (with_reducible refine Kd.C_drewN ?_ _) | (with_reducible refine Kd.C_drew ?_))); (case side4 => exact (Kd.R_reads' HO370.out).2.1); rintro e w' ⟨rfl, ⟨nd, rfl⟩⟩; obtain ⟨Ao28, co28, eo28⟩ := Kd.R_slice HO375.out; subst eo28; obtain ⟨Ao29, co29, eo29⟩ := Kd.R_slice HO380.out; subst eo29) | (go_at_call 8; (with_reducible refine (laws_yTexts.calls k _ _ t371 _ _ t376 true _ ?side1 ?side2 ?side3 ?side4 A22.out).mono ?_); (case side1 => repeat (first | exact (Kd.R_reads' HO375.out).2.2 | (with_reducible refine Kd.C_alloc ?_ _) | (with_reducible refine Kd.C_drewN ?_ _) | (with_reducible refine Kd.C_drew ?_))); (case side2 => exact (Kd.R_reads' HO375.out).2.1); (case side3 => repeat (first | exact (Kd.R_reads' HO380.out).2.2 | (with_reducible refine Kd.C_alloc ?_ _) | (with_reducible refine Kd.C_drewN ?_ _) | (with_reducible refine Kd.C_drew ?_))); (case side4 => exact (Kd.R_reads' HO380.out).2.1); rintro e w' ⟨rfl, ⟨nd, rfl⟩⟩))
                            go_meet
                            case rel => exact ⟨_, (!t373), (by first | rfl | (simp; done) | (simp [*]; done)), H', ⟨by first | omega | exact Nat.le_refl _⟩, ⟨by (with_reducible repeat (first | apply Kd.R_alloc | apply Kd.R_drewN | apply Kd.R_drew)); exact Kd.R_mono HO366.out (fun _ hk => hk.1.2)⟩, ⟨by (with_reducible repeat (first | apply Kd.R_alloc | apply Kd.R_drewN | apply Kd.R_drew)); exact Kd.R_mono HO375.out (fun _ hk => hk.1.1.2)⟩, ⟨by repeat (first | (with_reducible first | exact HB.out | apply below_alloc | apply pw_below_drewN | apply below_drew1) | exact HB.out)⟩⟩
                          · replace c25 := Bool.eq_false_iff.mpr c25
                            subst c25
                            have H1 : (laws_FnPairsNearOfAll.j0 k a0 a1 a2 a3 a4 t363 false t371 t372 t373 false) = some r := by rw [if_neg (show ¬ (false = true) by decide)] at H; exact H
                            clear H
                            have H := H1
                            clear H1
                            have H' := Aside0.mk H
                            clear H
                            obtain ⟨Ao30, co30, eo30⟩ := Kd.R_slice HO366.out
                            subst eo30
                            obtain ⟨Ao31, co31, eo31⟩ := Kd.R_slice HO370.out
                            subst eo31
                            go_wp2_with (first | (go_at_call 8; (with_reducible refine (laws_yTexts.calls k _ _ t363 _ _ t367 true _ ?side1 ?side2 ?side3 ?side4 A17.out).mono ?_); (case side1 => repeat (first | exact (Kd.R_reads' HO366.out).2.2 | (with_reducible refine Kd.C_alloc ?_ _) | (with_reducible refine Kd.C_drewN ?_ _) | (with_reducible refine Kd.C_drew ?_))); (case side2 => exact (Kd.R_reads' HO366.out).2.1); (case side3 => repeat (first | exact (Kd.R_reads' HO370.out).2.2 | (with_reducible refine Kd.C_alloc ?_ _) | (with_reducible refine Kd.C_drewN ?_ _) | (with_reducible refine Kd.C_drew ?_))); (case side4 => exact (Kd.R_reads' HO370.out).2.1); rintro e w' ⟨rfl, ⟨nd, rfl⟩⟩; obtain ⟨Ao32, co32, eo32⟩ := Kd.R_slice HO375.out; subst eo32; obtain ⟨Ao33, co33, eo33⟩ := Kd.R_slice HO380.out; subst eo33) | (go_at_call 8; (with_reducible refine (laws_yTexts.calls k _ _ t371 _ _ t376 true _ ?side1 ?side2 ?side3 ?side4 A22.out).mono ?_); (case side1 => repeat (first | exact (Kd.R_reads' HO375.out).2.2 | (with_reducible refine Kd.C_alloc ?_ _) | (with_reducible refine Kd.C_drewN ?_ _) | (with_reducible refine Kd.C_drew ?_))); (case side2 => exact (Kd.R_reads' HO375.out).2.1); (case side3 => repeat (first | exact (Kd.R_reads' HO380.out).2.2 | (with_reducible refine Kd.C_alloc ?_ _) | (with_reducible refine Kd.C_drewN ?_ _) | (with_reducible refine Kd.C_drew ?_))); (case side4 => exact (Kd.R_reads' HO380.out).2.1); rintro e w' ⟨rfl, ⟨nd, rfl⟩⟩))
                            go_meet
                            case rel => exact ⟨_, (false), (by first | rfl | (simp; done) | (simp [*]; done)), H', ⟨by first | omega | exact Nat.le_refl _⟩, ⟨by (with_reducible repeat (first | apply Kd.R_alloc | apply Kd.R_drewN | apply Kd.R_drew)); exact Kd.R_mono HO366.out (fun _ hk => hk.1.2)⟩, ⟨by (with_reducible repeat (first | apply Kd.R_alloc | apply Kd.R_drewN | apply Kd.R_drew)); exact Kd.R_mono HO375.out (fun _ hk => hk.1.1.2)⟩, ⟨by repeat (first | (with_reducible first | exact HB.out | apply below_alloc | apply pw_below_drewN | apply below_drew1) | exact HB.out)⟩⟩
                        · rw [if_neg c24] at H
                          have c24b0 : (t372 == t377) = false := beq_eq_false_iff_ne.mpr c24
                          have c24b1 : (t372 != t377) = true := bne_iff_ne.mpr c24
                          have H' := Aside0.mk H
                          clear H
                          obtain ⟨Ao34, co34, eo34⟩ := Kd.R_slice HO366.out
                          subst eo34
                          obtain ⟨Ao35, co35, eo35⟩ := Kd.R_slice HO370.out
                          subst eo35
                          go_wp2_with (first | (go_at_call 8; (with_reducible refine (laws_yTexts.calls k _ _ t363 _ _ t367 true _ ?side1 ?side2 ?side3 ?side4 A17.out).mono ?_); (case side1 => repeat (first | exact (Kd.R_reads' HO366.out).2.2 | (with_reducible refine Kd.C_alloc ?_ _) | (with_reducible refine Kd.C_drewN ?_ _) | (with_reducible refine Kd.C_drew ?_))); (case side2 => exact (Kd.R_reads' HO366.out).2.1); (case side3 => repeat (first | exact (Kd.R_reads' HO370.out).2.2 | (with_reducible refine Kd.C_alloc ?_ _) | (with_reducible refine Kd.C_drewN ?_ _) | (with_reducible refine Kd.C_drew ?_))); (case side4 => exact (Kd.R_reads' HO370.out).2.1); rintro e w' ⟨rfl, ⟨nd, rfl⟩⟩; obtain ⟨Ao36, co36, eo36⟩ := Kd.R_slice HO375.out; subst eo36; obtain ⟨Ao37, co37, eo37⟩ := Kd.R_slice HO380.out; subst eo37) | (go_at_call 8; (with_reducible refine (laws_yTexts.calls k _ _ t371 _ _ t376 true _ ?side1 ?side2 ?side3 ?side4 A22.out).mono ?_); (case side1 => repeat (first | exact (Kd.R_reads' HO375.out).2.2 | (with_reducible refine Kd.C_alloc ?_ _) | (with_reducible refine Kd.C_drewN ?_ _) | (with_reducible refine Kd.C_drew ?_))); (case side2 => exact (Kd.R_reads' HO375.out).2.1); (case side3 => repeat (first | exact (Kd.R_reads' HO380.out).2.2 | (with_reducible refine Kd.C_alloc ?_ _) | (with_reducible refine Kd.C_drewN ?_ _) | (with_reducible refine Kd.C_drew ?_))); (case side4 => exact (Kd.R_reads' HO380.out).2.1); rintro e w' ⟨rfl, ⟨nd, rfl⟩⟩))
                          go_meet
                          case rel => exact ⟨_, (true), (by first | rfl | (simp; done) | (simp [*]; done)), H', ⟨by first | omega | exact Nat.le_refl _⟩, ⟨by (with_reducible repeat (first | apply Kd.R_alloc | apply Kd.R_drewN | apply Kd.R_drew)); exact Kd.R_mono HO366.out (fun _ hk => hk.1.2)⟩, ⟨by (with_reducible repeat (first | apply Kd.R_alloc | apply Kd.R_drewN | apply Kd.R_drew)); exact Kd.R_mono HO375.out (fun _ hk => hk.1.1.2)⟩, ⟨by repeat (first | (with_reducible first | exact HB.out | apply below_alloc | apply pw_below_drewN | apply below_drew1) | exact HB.out)⟩⟩
                      · replace c23 := Bool.eq_false_iff.mpr c23
                        subst c23
                        have H1 : (laws_FnPairsNearOfAll.j0 k a0 a1 a2 a3 a4 t363 t364 t371 t372 t373 true) = some r := by rw [if_neg (show ¬ (false = true) by decide)] at H; exact H
                        clear H
                        have H := H1
                        clear H1
                        have H' := Aside0.mk H
                        clear H
                        obtain ⟨Ao38, co38, eo38⟩ := Kd.R_slice HO366.out
                        subst eo38
                        obtain ⟨Ao39, co39, eo39⟩ := Kd.R_slice HO370.out
                        subst eo39
                        go_wp2_with (first | (go_at_call 8; (with_reducible refine (laws_yTexts.calls k _ _ t363 _ _ t367 true _ ?side1 ?side2 ?side3 ?side4 A17.out).mono ?_); (case side1 => repeat (first | exact (Kd.R_reads' HO366.out).2.2 | (with_reducible refine Kd.C_alloc ?_ _) | (with_reducible refine Kd.C_drewN ?_ _) | (with_reducible refine Kd.C_drew ?_))); (case side2 => exact (Kd.R_reads' HO366.out).2.1); (case side3 => repeat (first | exact (Kd.R_reads' HO370.out).2.2 | (with_reducible refine Kd.C_alloc ?_ _) | (with_reducible refine Kd.C_drewN ?_ _) | (with_reducible refine Kd.C_drew ?_))); (case side4 => exact (Kd.R_reads' HO370.out).2.1); rintro e w' ⟨rfl, ⟨nd, rfl⟩⟩; obtain ⟨Ao40, co40, eo40⟩ := Kd.R_slice HO375.out; subst eo40; obtain ⟨Ao41, co41, eo41⟩ := Kd.R_slice HO380.out; subst eo41) | (go_at_call 8; (with_reducible refine (laws_yTexts.calls k _ _ t371 _ _ t376 false _ ?side1 ?side2 ?side3 ?side4 A22.out).mono ?_); (case side1 => repeat (first | exact (Kd.R_reads' HO375.out).2.2 | (with_reducible refine Kd.C_alloc ?_ _) | (with_reducible refine Kd.C_drewN ?_ _) | (with_reducible refine Kd.C_drew ?_))); (case side2 => exact (Kd.R_reads' HO375.out).2.1); (case side3 => repeat (first | exact (Kd.R_reads' HO380.out).2.2 | (with_reducible refine Kd.C_alloc ?_ _) | (with_reducible refine Kd.C_drewN ?_ _) | (with_reducible refine Kd.C_drew ?_))); (case side4 => exact (Kd.R_reads' HO380.out).2.1); rintro e w' ⟨rfl, ⟨nd, rfl⟩⟩))
                        go_meet
                        case rel => exact ⟨_, (true), (by first | rfl | (simp; done) | (simp [*]; done)), H', ⟨by first | omega | exact Nat.le_refl _⟩, ⟨by (with_reducible repeat (first | apply Kd.R_alloc | apply Kd.R_drewN | apply Kd.R_drew)); exact Kd.R_mono HO366.out (fun _ hk => hk.1.2)⟩, ⟨by (with_reducible repeat (first | apply Kd.R_alloc | apply Kd.R_drewN | apply Kd.R_drew)); exact Kd.R_mono HO375.out (fun _ hk => hk.1.1.2)⟩, ⟨by repeat (first | (with_reducible first | exact HB.out | apply below_alloc | apply pw_below_drewN | apply below_drew1) | exact HB.out)⟩⟩
              · replace c18 := Bool.eq_false_iff.mpr c18
                subst c18
                have H1 : (laws_FnPairsNearOfAll.j0 k a0 a1 a2 a3 a4 t363 t364 t371 t372 t373 true) = some r := by rw [if_neg (show ¬ (false = true) by decide)] at H; exact H
                clear H
                have H := H1
                clear H1
                have H' := Aside0.mk H
                clear H
                obtain ⟨Ao42, co42, eo42⟩ := Kd.R_slice HO366.out
                subst eo42
                obtain ⟨Ao43, co43, eo43⟩ := Kd.R_slice HO370.out
                subst eo43
                go_wp2_with (first | (go_at_call 8; (with_reducible refine (laws_yTexts.calls k _ _ t363 _ _ t367 false _ ?side1 ?side2 ?side3 ?side4 A17.out).mono ?_); (case side1 => repeat (first | exact (Kd.R_reads' HO366.out).2.2 | (with_reducible refine Kd.C_alloc ?_ _) | (with_reducible refine Kd.C_drewN ?_ _) | (with_reducible refine Kd.C_drew ?_))); (case side2 => exact (Kd.R_reads' HO366.out).2.1); (case side3 => repeat (first | exact (Kd.R_reads' HO370.out).2.2 | (with_reducible refine Kd.C_alloc ?_ _) | (with_reducible refine Kd.C_drewN ?_ _) | (with_reducible refine Kd.C_drew ?_))); (case side4 => exact (Kd.R_reads' HO370.out).2.1); rintro e w' ⟨rfl, ⟨nd, rfl⟩⟩))
                go_meet
                case rel => exact ⟨_, (true), (by first | rfl | (simp; done) | (simp [*]; done)), H', ⟨by first | omega | exact Nat.le_refl _⟩, ⟨by (with_reducible repeat (first | apply Kd.R_alloc | apply Kd.R_drewN | apply Kd.R_drew)); exact Kd.R_mono HO366.out (fun _ hk => hk.1.2)⟩, ⟨by (with_reducible repeat (first | apply Kd.R_alloc | apply Kd.R_drewN | apply Kd.R_drew)); exact Kd.R_mono HO375.out (fun _ hk => hk.1.1.2)⟩, ⟨by repeat (first | (with_reducible first | exact HB.out | apply below_alloc | apply pw_below_drewN | apply below_drew1) | exact HB.out)⟩⟩
      case rest =>
        as_aux_lemma =>
          clear HC11
          try clear c1
          try clear c2
          try clear p2
          try clear c3
          try clear c4
          try clear c5
          try clear c6
          try clear c6b0
          try clear c6b1
          try clear c7
          try clear c16
          try clear c16b0
          try clear c16b1
          try clear c16b2
          try clear c18
          try clear c19
          try clear c19b0
          try clear c19b1
          try clear c19b2
          try clear c23
          try clear c24
          try clear c24b0
          try clear c24b1
          try clear c25
          obtain ⟨kq, x107_10, rfl, HA, HJ10, HO_11, HO_15, HB⟩ := hcut
          cases kq with
          | zero => exact absurd HA.out (by simp [laws_FnPairsNearOfAll.j0])
          | succ kj10 =>
            have H := HA.out
            clear HA
            simp only [laws_FnPairsNearOfAll.j0] at H
            by_cases c44 : x107_10 = true
            · subst c44
              have H1 : (some false) = some r := by rw [if_pos rfl] at H; exact H
              clear H
              have H := H1
              clear H1
              obtain rfl := Option.some.inj H
              go_wp2
              go_ret
              exact ⟨by first | rfl | (simp [errW_none, errW_some] <;> rfl) | (simp [*, errW_none, errW_some] <;> rfl), by repeat (first | (with_reducible first | exact HB.out | apply below_alloc | apply pw_below_drewN | apply below_drew1) | exact HB.out)⟩
            · as_aux_lemma =>
                replace c44 := Bool.eq_false_iff.mpr c44
                subst c44
                have H1 : (if t364 = true then (laws_FnPairsNearOfAll.l0 kj10 a0 a1 a2 a3 a4 t363 t371 t372 t373 (-1) t363 (t363.length : Int) 0) else (laws_FnPairsNearOfAll.j3 kj10 a0 a2 a3 a4 t371 t372 t373)) = some r := by rw [if_neg (show ¬ (false = true) by decide)] at H; exact H
                clear H
                have H := H1
                clear H1
                have HC45 := Aside0.mk H
                clear H
                go_upto_if 108 with (fail)
                go_cut [] (fun wc => ∃ (kq : Nat), Aside0 (laws_FnPairsNearOfAll.j3 kq a0 a2 a3 a4 t371 t372 t373 = some r) ∧ Aside0 (kq ≤ kj10) ∧ Aside0 (Kd.R Kd.string 9 wc w.heap.size (fun _ => True) v374 t371) ∧ Aside0 (Below w.heap.size w wc))
                case first =>
                  as_aux_lemma =>
                    have H := HC45.out
                    clear HC45
                    by_cases c46 : t364 = true
                    · as_aux_lemma =>
                        subst c46
                        have H1 : (laws_FnPairsNearOfAll.l0 kj10 a0 a1 a2 a3 a4 t363 t371 t372 t373 (-1) t363 (t363.length : Int) 0) = some r := by rw [if_pos rfl] at H; exact H
                        clear H
                        have H := H1
                        clear H1
                        have H' := Aside0.mk H
                        clear H
                        obtain ⟨Ao47, co47, eo47⟩ := Kd.R_slice HO_11.out
                        subst eo47
                        go_wp2
                        go_loopg [21, 111] kj10 (fun kq v21 v111 w' => ∃ (x21_2 : Int) (x111_2 : Int), v21 = .int .i64 x21_2 ∧ v111 = .int .i64 x111_2 ∧ Aside0 (laws_FnPairsNearOfAll.l0 kq a0 a1 a2 a3 a4 t363 t371 t372 t373 x21_2 t363 (t363.length : Int) x111_2 = some r) ∧ Aside0 (kq ≤ kj10) ∧ Aside0 (Kd.R Kd.string 9 w' w.heap.size (fun k_ => some k_ ≠ (v374 : Value).ownBlock) (.slice Ao47 t363.length co47) t363) ∧ Aside0 (Kd.R Kd.string 9 w' w.heap.size (fun k_ => some k_ ≠ ((.slice Ao47 t363.length co47) : Value).ownBlock ∧ some k_ ≠ ((.slice Ao47 t363.length co47) : Value).ownBlock) v374 t371) ∧ Aside0 (Kd.R Kd.string 9 w' w.heap.size (fun k_ => some k_ ≠ (v374 : Value).ownBlock) (.slice Ao47 t363.length co47) t363) ∧ Aside0 (Below w.heap.size w w'))
                        case atStart => exact ⟨((-1)), (0), (by first | rfl | (simp; done) | (simp [*]; done)), (by first | rfl | (simp; done) | (simp [*]; done)), H', ⟨Nat.le_refl _⟩, ⟨by (with_reducible repeat (first | apply Kd.R_alloc | apply Kd.R_drewN | apply Kd.R_drew)); exact HO_11.out⟩, ⟨by (with_reducible repeat (first | apply Kd.R_alloc | apply Kd.R_drewN | apply Kd.R_drew)); exact Kd.R_mono HO_15.out (fun _ hk => ⟨hk, hk⟩)⟩, ⟨by (with_reducible repeat (first | apply Kd.R_alloc | apply Kd.R_drewN | apply Kd.R_drew)); exact HO_11.out⟩, ⟨by repeat (first | (with_reducible first | exact HB.out | apply below_alloc | apply pw_below_drewN | apply below_drew1) | exact HB.out)⟩⟩
                        case round =>
                          as_aux_lemma =>
                            clear H'
                            try clear c1
                            try clear c2
                            try clear p2
                            try clear c3
                            try clear c4
                            try clear c5
                            try clear c6
                            try clear c6b0
                            try clear c6b1
                            try clear c7
                            try clear c16
                            try clear c16b0
                            try clear c16b1
                            try clear c16b2
                            try clear c18
                            try clear c19
                            try clear c19b0
                            try clear c19b1
                            try clear c19b2
                            try clear c23
                            try clear c24
                            try clear c24b0
                            try clear c24b1
                            try clear c25
                            try clear c44
                            try clear c46
                            try clear p2
                            obtain ⟨x21_2, x111_2, rfl, rfl, HA, HK2, HO_11, HO_15, HO_109, HB⟩ := hrel
                            cases gk with
                            | zero => exact absurd HA.out (by simp [laws_FnPairsNearOfAll.l0])
                            | succ k2 =>
                              have H := HA.out
                              clear HA
                              simp only [laws_FnPairsNearOfAll.l0] at H
                              by_cases c48 : x111_2 < (t363.length : Int)
                              · as_aux_lemma =>
                                  rw [if_pos c48] at H
                                  have c48b0 : decide (x111_2 < (t363.length : Int)) = true := decide_eq_true c48
                                  clear c48
                                  (first | rw [c48b0] | (simp only [i64_w, i32_w]; rw [c48b0]) | skip)
                                  by_cases c49 : 0 ≤ x111_2
                                  · as_aux_lemma =>
                                      rw [if_pos c49] at H
                                      have c49b0 : decide (0 ≤ x111_2) = true := decide_eq_true c49
                                      clear c49
                                      by_cases c50 : x111_2 < (t363.length : Int)
                                      · as_aux_lemma =>
                                          rw [if_pos c50] at H
                                          have c50b0 : decide (x111_2 < (t363.length : Int)) = true := decide_eq_true c50
                                          clear c50
                                          replace H := Option.bind_eq_some_iff.mp H
                                          obtain ⟨⟨t384, t385⟩, A510, H⟩ := H
                                          replace H : ((impl_FewestPairMoves.f k2 a0 (rdOf ByteArray.empty t363 x111_2)).bind fun bt386 => (if t385 = true then (if t384 ≤ x21_2 then (some false) else (if bt386.2 = true then (if bt386.1 > a1 then (some false) else (laws_FnPairsNearOfAll.l0 k2 a0 a1 a2 a3 a4 t363 t371 t372 t373 t384 t363 (t363.length : Int) (wrap64 (x111_2 + 1)))) else (some false))) else (some false))) = some r := H
                                          have A51 := Aside0.mk A510
                                          clear A510
                                          replace H := Option.bind_eq_some_iff.mp H
                                          obtain ⟨⟨t386, t387⟩, A520, H⟩ := H
                                          replace H : (if t385 = true then (if t384 ≤ x21_2 then (some false) else (if t387 = true then (if t386 > a1 then (some false) else (laws_FnPairsNearOfAll.l0 k2 a0 a1 a2 a3 a4 t363 t371 t372 t373 t384 t363 (t363.length : Int) (wrap64 (x111_2 + 1)))) else (some false))) else (some false)) = some r := H
                                          have A52 := Aside0.mk A520
                                          clear A520
                                          by_cases c53 : t385 = true
                                          · as_aux_lemma =>
                                              subst c53
                                              have H1 : (if t384 ≤ x21_2 then (some false) else (if t387 = true then (if t386 > a1 then (some false) else (laws_FnPairsNearOfAll.l0 k2 a0 a1 a2 a3 a4 t363 t371 t372 t373 t384 t363 (t363.length : Int) (wrap64 (x111_2 + 1)))) else (some false))) = some r := by rw [if_pos rfl] at H; exact H
                                              clear H
                                              have H := H1
                                              clear H1
                                              by_cases c54 : t384 ≤ x21_2
                                              · rw [if_pos c54] at H
                                                have c54b0 : decide (t384 ≤ x21_2) = true := decide_eq_true c54
                                                clear c54
                                                obtain rfl := Option.some.inj H
                                                have p383 : 0 ≤ (x111_2 : Int) := of_decide_eq_true (by first | (with_reducible assumption) | assumption)
                                                have q383 : x111_2 < (t363.length : Int) := of_decide_eq_true (by first | (with_reducible assumption) | assumption)
                                                obtain ⟨ad383, e383, hx383_0⟩ := Kd.at_string (Kd.R_reads' HO_109.out).2.2 x111_2 p383 q383
                                                cases e383
                                                replace p383 := eq_true p383
                                                replace q383 := eq_true q383
                                                go_wp2_with (first | ((with_reducible refine gate_callee (f := 9) rfl ?_); refine goesL_ (some 117) rfl rfl Tryd.func9 (by kernel_rfl) rfl #[.string (rdOf ByteArray.empty t363 x111_2)] rfl (by (try simp only [List.map_toArray, List.map_cons, List.map_nil]); first | done | rfl | (simp only [List.length_drop, List.length_take]; rfl)) ?_; (with_reducible refine (impl_NumberOfState.calls k2 (rdOf ByteArray.empty t363 x111_2) t384 true _ A51.out).mono ?_); rintro e w55 ⟨rfl, hb⟩; refine ⟨_, rfl, ?_⟩; have n0_ := Aside0.mk (Kd.R_below (by (with_reducible repeat (first | apply Kd.R_alloc | apply Kd.R_drewN | apply Kd.R_drew)); exact HO_11.out) hb); have n1_ := Aside0.mk (Kd.R_below (by (with_reducible repeat (first | apply Kd.R_alloc | apply Kd.R_drewN | apply Kd.R_drew)); exact HO_15.out) hb); have n2_ := Aside0.mk (Kd.R_below (by (with_reducible repeat (first | apply Kd.R_alloc | apply Kd.R_drewN | apply Kd.R_drew)); exact HO_109.out) hb); have n3_ := Aside0.mk (below_step (by repeat (first | (with_reducible first | exact HB.out | apply below_alloc | apply pw_below_drewN | apply below_drew1) | exact HB.out)) hb); clear HO_11; clear HO_15; clear HO_109; clear HB; have HO_11 := n0_; have HO_15 := n1_; have HO_109 := n2_; have HB := n3_; clear n0_ n1_ n2_ n3_; (try clear hb); (try clear hb2); (try clear hk); (try clear hi)) | ((with_reducible refine gate_callee (f := 10) rfl ?_); refine goesL_ (some 123) rfl rfl Tryd.func10 (by kernel_rfl) rfl #[.string a0, .string (rdOf ByteArray.empty t363 x111_2)] rfl (by (try simp only [List.map_toArray, List.map_cons, List.map_nil]); first | done | rfl | (simp only [List.length_drop, List.length_take]; rfl)) ?_; (with_reducible refine (impl_FewestPairMoves.calls k2 a0 (rdOf ByteArray.empty t363 x111_2) t386 t387 _ A52.out).mono ?_); rintro e w56 ⟨rfl, hb⟩; refine ⟨_, rfl, ?_⟩; have n0_ := Aside0.mk (Kd.R_below (by (with_reducible repeat (first | apply Kd.R_alloc | apply Kd.R_drewN | apply Kd.R_drew)); exact HO_11.out) hb); have n1_ := Aside0.mk (Kd.R_below (by (with_reducible repeat (first | apply Kd.R_alloc | apply Kd.R_drewN | apply Kd.R_drew)); exact HO_15.out) hb); have n2_ := Aside0.mk (Kd.R_below (by (with_reducible repeat (first | apply Kd.R_alloc | apply Kd.R_drewN | apply Kd.R_drew)); exact HO_109.out) hb); have n3_ := Aside0.mk (below_step (by repeat (first | (with_reducible first | exact HB.out | apply below_alloc | apply pw_below_drewN | apply below_drew1) | exact HB.out)) hb); clear HO_11; clear HO_15; clear HO_109; clear HB; have HO_11 := n0_; have HO_15 := n1_; have HO_109 := n2_; have HB := n3_; clear n0_ n1_ n2_ n3_; (try clear hb); (try clear hb2); (try clear hk); (try clear hi)))
                                                go_ret
                                                exact ⟨by first | rfl | (simp [errW_none, errW_some] <;> rfl) | (simp [*, errW_none, errW_some] <;> rfl), by repeat (first | (with_reducible first | exact HB.out | apply below_alloc | apply pw_below_drewN | apply below_drew1) | exact HB.out)⟩
                                              · rw [if_neg c54] at H
                                                have c54b0 : decide (t384 ≤ x21_2) = false := decide_eq_false c54
                                                clear c54
                                                by_cases c57 : t387 = true
                                                · subst c57
                                                  have H1 : (if t386 > a1 then (some false) else (laws_FnPairsNearOfAll.l0 k2 a0 a1 a2 a3 a4 t363 t371 t372 t373 t384 t363 (t363.length : Int) (wrap64 (x111_2 + 1)))) = some r := by rw [if_pos rfl] at H; exact H
                                                  clear H
                                                  have H := H1
                                                  clear H1
                                                  by_cases c58 : t386 > a1
                                                  · rw [if_pos c58] at H
                                                    have c58b0 : decide (a1 < t386) = true := decide_eq_true c58
                                                    clear c58
                                                    obtain rfl := Option.some.inj H
                                                    have p383 : 0 ≤ (x111_2 : Int) := of_decide_eq_true (by first | (with_reducible assumption) | assumption)
                                                    have q383 : x111_2 < (t363.length : Int) := of_decide_eq_true (by first | (with_reducible assumption) | assumption)
                                                    obtain ⟨ad383, e383, hx383_0⟩ := Kd.at_string (Kd.R_reads' HO_109.out).2.2 x111_2 p383 q383
                                                    cases e383
                                                    replace p383 := eq_true p383
                                                    replace q383 := eq_true q383
                                                    go_wp2_with (first | ((with_reducible refine gate_callee (f := 9) rfl ?_); refine goesL_ (some 117) rfl rfl Tryd.func9 (by kernel_rfl) rfl #[.string (rdOf ByteArray.empty t363 x111_2)] rfl (by (try simp only [List.map_toArray, List.map_cons, List.map_nil]); first | done | rfl | (simp only [List.length_drop, List.length_take]; rfl)) ?_; (with_reducible refine (impl_NumberOfState.calls k2 (rdOf ByteArray.empty t363 x111_2) t384 true _ A51.out).mono ?_); rintro e w59 ⟨rfl, hb⟩; refine ⟨_, rfl, ?_⟩; have n0_ := Aside0.mk (Kd.R_below (by (with_reducible repeat (first | apply Kd.R_alloc | apply Kd.R_drewN | apply Kd.R_drew)); exact HO_11.out) hb); have n1_ := Aside0.mk (Kd.R_below (by (with_reducible repeat (first | apply Kd.R_alloc | apply Kd.R_drewN | apply Kd.R_drew)); exact HO_15.out) hb); have n2_ := Aside0.mk (Kd.R_below (by (with_reducible repeat (first | apply Kd.R_alloc | apply Kd.R_drewN | apply Kd.R_drew)); exact HO_109.out) hb); have n3_ := Aside0.mk (below_step (by repeat (first | (with_reducible first | exact HB.out | apply below_alloc | apply pw_below_drewN | apply below_drew1) | exact HB.out)) hb); clear HO_11; clear HO_15; clear HO_109; clear HB; have HO_11 := n0_; have HO_15 := n1_; have HO_109 := n2_; have HB := n3_; clear n0_ n1_ n2_ n3_; (try clear hb); (try clear hb2); (try clear hk); (try clear hi)) | ((with_reducible refine gate_callee (f := 10) rfl ?_); refine goesL_ (some 123) rfl rfl Tryd.func10 (by kernel_rfl) rfl #[.string a0, .string (rdOf ByteArray.empty t363 x111_2)] rfl (by (try simp only [List.map_toArray, List.map_cons, List.map_nil]); first | done | rfl | (simp only [List.length_drop, List.length_take]; rfl)) ?_; (with_reducible refine (impl_FewestPairMoves.calls k2 a0 (rdOf ByteArray.empty t363 x111_2) t386 true _ A52.out).mono ?_); rintro e w60 ⟨rfl, hb⟩; refine ⟨_, rfl, ?_⟩; have n0_ := Aside0.mk (Kd.R_below (by (with_reducible repeat (first | apply Kd.R_alloc | apply Kd.R_drewN | apply Kd.R_drew)); exact HO_11.out) hb); have n1_ := Aside0.mk (Kd.R_below (by (with_reducible repeat (first | apply Kd.R_alloc | apply Kd.R_drewN | apply Kd.R_drew)); exact HO_15.out) hb); have n2_ := Aside0.mk (Kd.R_below (by (with_reducible repeat (first | apply Kd.R_alloc | apply Kd.R_drewN | apply Kd.R_drew)); exact HO_109.out) hb); have n3_ := Aside0.mk (below_step (by repeat (first | (with_reducible first | exact HB.out | apply below_alloc | apply pw_below_drewN | apply below_drew1) | exact HB.out)) hb); clear HO_11; clear HO_15; clear HO_109; clear HB; have HO_11 := n0_; have HO_15 := n1_; have HO_109 := n2_; have HB := n3_; clear n0_ n1_ n2_ n3_; (try clear hb); (try clear hb2); (try clear hk); (try clear hi)))
                                                    go_ret
                                                    exact ⟨by first | rfl | (simp [errW_none, errW_some] <;> rfl) | (simp [*, errW_none, errW_some] <;> rfl), by repeat (first | (with_reducible first | exact HB.out | apply below_alloc | apply pw_below_drewN | apply below_drew1) | exact HB.out)⟩
                                                  · rw [if_neg c58] at H
                                                    have c58b0 : decide (a1 < t386) = false := decide_eq_false c58
                                                    clear c58
                                                    have H' := Aside0.mk H
                                                    clear H
                                                    have p383 : 0 ≤ (x111_2 : Int) := of_decide_eq_true (by first | (with_reducible assumption) | assumption)
                                                    have q383 : x111_2 < (t363.length : Int) := of_decide_eq_true (by first | (with_reducible assumption) | assumption)
                                                    obtain ⟨ad383, e383, hx383_0⟩ := Kd.at_string (Kd.R_reads' HO_109.out).2.2 x111_2 p383 q383
                                                    cases e383
                                                    replace p383 := eq_true p383
                                                    replace q383 := eq_true q383
                                                    go_wp2_with (first | ((with_reducible refine gate_callee (f := 9) rfl ?_); refine goesL_ (some 117) rfl rfl Tryd.func9 (by kernel_rfl) rfl #[.string (rdOf ByteArray.empty t363 x111_2)] rfl (by (try simp only [List.map_toArray, List.map_cons, List.map_nil]); first | done | rfl | (simp only [List.length_drop, List.length_take]; rfl)) ?_; (with_reducible refine (impl_NumberOfState.calls k2 (rdOf ByteArray.empty t363 x111_2) t384 true _ A51.out).mono ?_); rintro e w61 ⟨rfl, hb⟩; refine ⟨_, rfl, ?_⟩; have n0_ := Aside0.mk (Kd.R_below (by (with_reducible repeat (first | apply Kd.R_alloc | apply Kd.R_drewN | apply Kd.R_drew)); exact HO_11.out) hb); have n1_ := Aside0.mk (Kd.R_below (by (with_reducible repeat (first | apply Kd.R_alloc | apply Kd.R_drewN | apply Kd.R_drew)); exact HO_15.out) hb); have n2_ := Aside0.mk (Kd.R_below (by (with_reducible repeat (first | apply Kd.R_alloc | apply Kd.R_drewN | apply Kd.R_drew)); exact HO_109.out) hb); have n3_ := Aside0.mk (below_step (by repeat (first | (with_reducible first | exact HB.out | apply below_alloc | apply pw_below_drewN | apply below_drew1) | exact HB.out)) hb); clear HO_11; clear HO_15; clear HO_109; clear HB; have HO_11 := n0_; have HO_15 := n1_; have HO_109 := n2_; have HB := n3_; clear n0_ n1_ n2_ n3_; (try clear hb); (try clear hb2); (try clear hk); (try clear hi)) | ((with_reducible refine gate_callee (f := 10) rfl ?_); refine goesL_ (some 123) rfl rfl Tryd.func10 (by kernel_rfl) rfl #[.string a0, .string (rdOf ByteArray.empty t363 x111_2)] rfl (by (try simp only [List.map_toArray, List.map_cons, List.map_nil]); first | done | rfl | (simp only [List.length_drop, List.length_take]; rfl)) ?_; (with_reducible refine (impl_FewestPairMoves.calls k2 a0 (rdOf ByteArray.empty t363 x111_2) t386 true _ A52.out).mono ?_); rintro e w62 ⟨rfl, hb⟩; refine ⟨_, rfl, ?_⟩; have n0_ := Aside0.mk (Kd.R_below (by (with_reducible repeat (first | apply Kd.R_alloc | apply Kd.R_drewN | apply Kd.R_drew)); exact HO_11.out) hb); have n1_ := Aside0.mk (Kd.R_below (by (with_reducible repeat (first | apply Kd.R_alloc | apply Kd.R_drewN | apply Kd.R_drew)); exact HO_15.out) hb); have n2_ := Aside0.mk (Kd.R_below (by (with_reducible repeat (first | apply Kd.R_alloc | apply Kd.R_drewN | apply Kd.R_drew)); exact HO_109.out) hb); have n3_ := Aside0.mk (below_step (by repeat (first | (with_reducible first | exact HB.out | apply below_alloc | apply pw_below_drewN | apply below_drew1) | exact HB.out)) hb); clear HO_11; clear HO_15; clear HO_109; clear HB; have HO_11 := n0_; have HO_15 := n1_; have HO_109 := n2_; have HB := n3_; clear n0_ n1_ n2_ n3_; (try clear hb); (try clear hb2); (try clear hk); (try clear hi)))
                                                    go_roundg k2
                                                    case measure => have := HJ10.out; have := HK2.out; omega
                                                    case rel => exact ⟨(t384), (wrap64 (x111_2 + 1)), (by first | rfl | (simp; done) | (simp [*]; done)), (by first | rfl | (simp; done) | (simp [*]; done)), H', ⟨by have := HJ10.out; have := HK2.out; omega⟩, ⟨by (with_reducible repeat (first | apply Kd.R_alloc | apply Kd.R_drewN | apply Kd.R_drew)); exact HO_11.out⟩, ⟨by (with_reducible repeat (first | apply Kd.R_alloc | apply Kd.R_drewN | apply Kd.R_drew)); exact HO_15.out⟩, ⟨by (with_reducible repeat (first | apply Kd.R_alloc | apply Kd.R_drewN | apply Kd.R_drew)); exact HO_109.out⟩, ⟨by repeat (first | (with_reducible first | exact HB.out | apply below_alloc | apply pw_below_drewN | apply below_drew1) | exact HB.out)⟩⟩
                                                · replace c57 := Bool.eq_false_iff.mpr c57
                                                  subst c57
                                                  have H1 : (some false) = some r := by rw [if_neg (show ¬ (false = true) by decide)] at H; exact H
                                                  clear H
                                                  have H := H1
                                                  clear H1
                                                  obtain rfl := Option.some.inj H
                                                  have p383 : 0 ≤ (x111_2 : Int) := of_decide_eq_true (by first | (with_reducible assumption) | assumption)
                                                  have q383 : x111_2 < (t363.length : Int) := of_decide_eq_true (by first | (with_reducible assumption) | assumption)
                                                  obtain ⟨ad383, e383, hx383_0⟩ := Kd.at_string (Kd.R_reads' HO_109.out).2.2 x111_2 p383 q383
                                                  cases e383
                                                  replace p383 := eq_true p383
                                                  replace q383 := eq_true q383
                                                  go_wp2_with (first | ((with_reducible refine gate_callee (f := 9) rfl ?_); refine goesL_ (some 117) rfl rfl Tryd.func9 (by kernel_rfl) rfl #[.string (rdOf ByteArray.empty t363 x111_2)] rfl (by (try simp only [List.map_toArray, List.map_cons, List.map_nil]); first | done | rfl | (simp only [List.length_drop, List.length_take]; rfl)) ?_; (with_reducible refine (impl_NumberOfState.calls k2 (rdOf ByteArray.empty t363 x111_2) t384 true _ A51.out).mono ?_); rintro e w63 ⟨rfl, hb⟩; refine ⟨_, rfl, ?_⟩; have n0_ := Aside0.mk (Kd.R_below (by (with_reducible repeat (first | apply Kd.R_alloc | apply Kd.R_drewN | apply Kd.R_drew)); exact HO_11.out) hb); have n1_ := Aside0.mk (Kd.R_below (by (with_reducible repeat (first | apply Kd.R_alloc | apply Kd.R_drewN | apply Kd.R_drew)); exact HO_15.out) hb); have n2_ := Aside0.mk (Kd.R_below (by (with_reducible repeat (first | apply Kd.R_alloc | apply Kd.R_drewN | apply Kd.R_drew)); exact HO_109.out) hb); have n3_ := Aside0.mk (below_step (by repeat (first | (with_reducible first | exact HB.out | apply below_alloc | apply pw_below_drewN | apply below_drew1) | exact HB.out)) hb); clear HO_11; clear HO_15; clear HO_109; clear HB; have HO_11 := n0_; have HO_15 := n1_; have HO_109 := n2_; have HB := n3_; clear n0_ n1_ n2_ n3_; (try clear hb); (try clear hb2); (try clear hk); (try clear hi)) | ((with_reducible refine gate_callee (f := 10) rfl ?_); refine goesL_ (some 123) rfl rfl Tryd.func10 (by kernel_rfl) rfl #[.string a0, .string (rdOf ByteArray.empty t363 x111_2)] rfl (by (try simp only [List.map_toArray, List.map_cons, List.map_nil]); first | done | rfl | (simp only [List.length_drop, List.length_take]; rfl)) ?_; (with_reducible refine (impl_FewestPairMoves.calls k2 a0 (rdOf ByteArray.empty t363 x111_2) t386 false _ A52.out).mono ?_); rintro e w64 ⟨rfl, hb⟩; refine ⟨_, rfl, ?_⟩; have n0_ := Aside0.mk (Kd.R_below (by (with_reducible repeat (first | apply Kd.R_alloc | apply Kd.R_drewN | apply Kd.R_drew)); exact HO_11.out) hb); have n1_ := Aside0.mk (Kd.R_below (by (with_reducible repeat (first | apply Kd.R_alloc | apply Kd.R_drewN | apply Kd.R_drew)); exact HO_15.out) hb); have n2_ := Aside0.mk (Kd.R_below (by (with_reducible repeat (first | apply Kd.R_alloc | apply Kd.R_drewN | apply Kd.R_drew)); exact HO_109.out) hb); have n3_ := Aside0.mk (below_step (by repeat (first | (with_reducible first | exact HB.out | apply below_alloc | apply pw_below_drewN | apply below_drew1) | exact HB.out)) hb); clear HO_11; clear HO_15; clear HO_109; clear HB; have HO_11 := n0_; have HO_15 := n1_; have HO_109 := n2_; have HB := n3_; clear n0_ n1_ n2_ n3_; (try clear hb); (try clear hb2); (try clear hk); (try clear hi)))
                                                  go_ret
                                                  exact ⟨by first | rfl | (simp [errW_none, errW_some] <;> rfl) | (simp [*, errW_none, errW_some] <;> rfl), by repeat (first | (with_reducible first | exact HB.out | apply below_alloc | apply pw_below_drewN | apply below_drew1) | exact HB.out)⟩
                                          · replace c53 := Bool.eq_false_iff.mpr c53
                                            subst c53
                                            have H1 : (some false) = some r := by rw [if_neg (show ¬ (false = true) by decide)] at H; exact H
                                            clear H
                                            have H := H1
                                            clear H1
                                            obtain rfl := Option.some.inj H
                                            have p383 : 0 ≤ (x111_2 : Int) := of_decide_eq_true (by first | (with_reducible assumption) | assumption)
                                            have q383 : x111_2 < (t363.length : Int) := of_decide_eq_true (by first | (with_reducible assumption) | assumption)
                                            obtain ⟨ad383, e383, hx383_0⟩ := Kd.at_string (Kd.R_reads' HO_109.out).2.2 x111_2 p383 q383
                                            cases e383
                                            replace p383 := eq_true p383
                                            replace q383 := eq_true q383
                                            go_wp2_with (first | ((with_reducible refine gate_callee (f := 9) rfl ?_); refine goesL_ (some 117) rfl rfl Tryd.func9 (by kernel_rfl) rfl #[.string (rdOf ByteArray.empty t363 x111_2)] rfl (by (try simp only [List.map_toArray, List.map_cons, List.map_nil]); first | done | rfl | (simp only [List.length_drop, List.length_take]; rfl)) ?_; (with_reducible refine (impl_NumberOfState.calls k2 (rdOf ByteArray.empty t363 x111_2) t384 false _ A51.out).mono ?_); rintro e w65 ⟨rfl, hb⟩; refine ⟨_, rfl, ?_⟩; have n0_ := Aside0.mk (Kd.R_below (by (with_reducible repeat (first | apply Kd.R_alloc | apply Kd.R_drewN | apply Kd.R_drew)); exact HO_11.out) hb); have n1_ := Aside0.mk (Kd.R_below (by (with_reducible repeat (first | apply Kd.R_alloc | apply Kd.R_drewN | apply Kd.R_drew)); exact HO_15.out) hb); have n2_ := Aside0.mk (Kd.R_below (by (with_reducible repeat (first | apply Kd.R_alloc | apply Kd.R_drewN | apply Kd.R_drew)); exact HO_109.out) hb); have n3_ := Aside0.mk (below_step (by repeat (first | (with_reducible first | exact HB.out | apply below_alloc | apply pw_below_drewN | apply below_drew1) | exact HB.out)) hb); clear HO_11; clear HO_15; clear HO_109; clear HB; have HO_11 := n0_; have HO_15 := n1_; have HO_109 := n2_; have HB := n3_; clear n0_ n1_ n2_ n3_; (try clear hb); (try clear hb2); (try clear hk); (try clear hi)) | ((with_reducible refine gate_callee (f := 10) rfl ?_); refine goesL_ (some 123) rfl rfl Tryd.func10 (by kernel_rfl) rfl #[.string a0, .string (rdOf ByteArray.empty t363 x111_2)] rfl (by (try simp only [List.map_toArray, List.map_cons, List.map_nil]); first | done | rfl | (simp only [List.length_drop, List.length_take]; rfl)) ?_; (with_reducible refine (impl_FewestPairMoves.calls k2 a0 (rdOf ByteArray.empty t363 x111_2) t386 t387 _ A52.out).mono ?_); rintro e w66 ⟨rfl, hb⟩; refine ⟨_, rfl, ?_⟩; have n0_ := Aside0.mk (Kd.R_below (by (with_reducible repeat (first | apply Kd.R_alloc | apply Kd.R_drewN | apply Kd.R_drew)); exact HO_11.out) hb); have n1_ := Aside0.mk (Kd.R_below (by (with_reducible repeat (first | apply Kd.R_alloc | apply Kd.R_drewN | apply Kd.R_drew)); exact HO_15.out) hb); have n2_ := Aside0.mk (Kd.R_below (by (with_reducible repeat (first | apply Kd.R_alloc | apply Kd.R_drewN | apply Kd.R_drew)); exact HO_109.out) hb); have n3_ := Aside0.mk (below_step (by repeat (first | (with_reducible first | exact HB.out | apply below_alloc | apply pw_below_drewN | apply below_drew1) | exact HB.out)) hb); clear HO_11; clear HO_15; clear HO_109; clear HB; have HO_11 := n0_; have HO_15 := n1_; have HO_109 := n2_; have HB := n3_; clear n0_ n1_ n2_ n3_; (try clear hb); (try clear hb2); (try clear hk); (try clear hi)))
                                            go_ret
                                            exact ⟨by first | rfl | (simp [errW_none, errW_some] <;> rfl) | (simp [*, errW_none, errW_some] <;> rfl), by repeat (first | (with_reducible first | exact HB.out | apply below_alloc | apply pw_below_drewN | apply below_drew1) | exact HB.out)⟩
                                      · rw [if_neg c50] at H
                                        exact absurd H (by simp)
                                  · rw [if_neg c49] at H
                                    exact absurd H (by simp)
                              · as_aux_lemma =>
                                  rw [if_neg c48] at H
                                  have c48b0 : decide (x111_2 < (t363.length : Int)) = false := decide_eq_false c48
                                  clear c48
                                  (first | rw [c48b0] | (simp only [i64_w, i32_w]; rw [c48b0]) | skip)
                                  have HC67 := Aside0.mk H
                                  clear H
                                  go_upto_region 20 with (fail)
                                  go_cut [156] (fun v156 wc => ∃ (kq : Nat) (x156_66 : Bool), v156 = .bool x156_66 ∧ Aside0 (laws_FnPairsNearOfAll.j2 kq a0 a1 a2 a3 a4 t363 t371 t372 t373 x156_66 = some r) ∧ Aside0 (kq ≤ k2) ∧ Aside0 (Kd.R Kd.string 9 wc w.heap.size (fun k_ => some k_ ≠ (v374 : Value).ownBlock) (.slice Ao47 t363.length co47) t363) ∧ Aside0 (Kd.R Kd.string 9 wc w.heap.size (fun k_ => some k_ ≠ ((.slice Ao47 t363.length co47) : Value).ownBlock) v374 t371) ∧ Aside0 (Below w.heap.size w wc))
                                  case first =>
                                    as_aux_lemma =>
                                      have H := HC67.out
                                      clear HC67
                                      replace H := Option.bind_eq_some_iff.mp H
                                      obtain ⟨t388, A680, H⟩ := H
                                      replace H : (if t388 = true then (if a1 = 0 then (laws_FnPairsNearOfAll.j2 k2 a0 a1 a2 a3 a4 t363 t371 t372 t373 ((t363.length : Int) != 1)) else (laws_FnPairsNearOfAll.j2 k2 a0 a1 a2 a3 a4 t363 t371 t372 t373 false)) else (laws_FnPairsNearOfAll.j2 k2 a0 a1 a2 a3 a4 t363 t371 t372 t373 true)) = some r := H
                                      have A68 := Aside0.mk A680
                                      clear A680
                                      by_cases c69 : t388 = true
                                      · subst c69
                                        have H1 : (if a1 = 0 then (laws_FnPairsNearOfAll.j2 k2 a0 a1 a2 a3 a4 t363 t371 t372 t373 ((t363.length : Int) != 1)) else (laws_FnPairsNearOfAll.j2 k2 a0 a1 a2 a3 a4 t363 t371 t372 t373 false)) = some r := by rw [if_pos rfl] at H; exact H
                                        clear H
                                        have H := H1
                                        clear H1
                                        by_cases c70 : a1 = 0
                                        · rw [if_pos c70] at H
                                          have c70b0 : (a1 == 0) = true := beq_iff_eq.mpr c70
                                          have c70b1 : (a1 != 0) = false := bne_eq_false_iff_eq.mpr c70
                                          clear c70
                                          (first | rw [c70b0] | (simp only [i64_w, i32_w]; rw [c70b0]) | skip)
                                          have H' := Aside0.mk H
                                          clear H
                                          go_wp2_with (first | ((with_reducible refine gate_callee (f := 11) rfl ?_); refine goesL_ (some 146) rfl rfl Tryd.func11 (by kernel_rfl) rfl #[.slice Ao47 t363.length co47, .string a0] rfl (by (try simp only [List.map_toArray, List.map_cons, List.map_nil]); first | done | rfl | (simp only [List.length_drop, List.length_take]; rfl)) ?_; (with_reducible refine (laws_yText.calls k2 _ _ t363 a0 true _ ?side1 ?side2 A68.out).mono ?_); (case side1 => repeat (first | exact (Kd.R_reads' HO_11.out).2.2 | (with_reducible refine Kd.C_alloc ?_ _) | (with_reducible refine Kd.C_drewN ?_ _) | (with_reducible refine Kd.C_drew ?_))); (case side2 => exact (Kd.R_reads' HO_11.out).2.1); rintro e w' ⟨rfl, ⟨nd, rfl⟩⟩; refine ⟨_, rfl, ?_⟩))
                                          go_meet
                                          case rel => exact ⟨_, (((t363.length : Int) != 1)), (by first | rfl | (simp; done) | (simp [*]; done)), H', ⟨by have := HJ10.out; have := HK2.out; first | omega | exact Nat.le_refl _⟩, ⟨by (with_reducible repeat (first | apply Kd.R_alloc | apply Kd.R_drewN | apply Kd.R_drew)); exact HO_11.out⟩, ⟨by (with_reducible repeat (first | apply Kd.R_alloc | apply Kd.R_drewN | apply Kd.R_drew)); exact Kd.R_mono HO_15.out (fun _ hk => hk.1)⟩, ⟨by repeat (first | (with_reducible first | exact HB.out | apply below_alloc | apply pw_below_drewN | apply below_drew1) | exact HB.out)⟩⟩
                                        · rw [if_neg c70] at H
                                          have c70b0 : (a1 == 0) = false := beq_eq_false_iff_ne.mpr c70
                                          have c70b1 : (a1 != 0) = true := bne_iff_ne.mpr c70
                                          (first | rw [c70b0] | (simp only [i64_w, i32_w]; rw [c70b0]) | skip)
                                          have H' := Aside0.mk H
                                          clear H
                                          go_wp2_with (first | ((with_reducible refine gate_callee (f := 11) rfl ?_); refine goesL_ (some 146) rfl rfl Tryd.func11 (by kernel_rfl) rfl #[.slice Ao47 t363.length co47, .string a0] rfl (by (try simp only [List.map_toArray, List.map_cons, List.map_nil]); first | done | rfl | (simp only [List.length_drop, List.length_take]; rfl)) ?_; (with_reducible refine (laws_yText.calls k2 _ _ t363 a0 true _ ?side1 ?side2 A68.out).mono ?_); (case side1 => repeat (first | exact (Kd.R_reads' HO_11.out).2.2 | (with_reducible refine Kd.C_alloc ?_ _) | (with_reducible refine Kd.C_drewN ?_ _) | (with_reducible refine Kd.C_drew ?_))); (case side2 => exact (Kd.R_reads' HO_11.out).2.1); rintro e w' ⟨rfl, ⟨nd, rfl⟩⟩; refine ⟨_, rfl, ?_⟩))
                                          go_meet
                                          case rel => exact ⟨_, (false), (by first | rfl | (simp; done) | (simp [*]; done)), H', ⟨by have := HJ10.out; have := HK2.out; first | omega | exact Nat.le_refl _⟩, ⟨by (with_reducible repeat (first | apply Kd.R_alloc | apply Kd.R_drewN | apply Kd.R_drew)); exact HO_11.out⟩, ⟨by (with_reducible repeat (first | apply Kd.R_alloc | apply Kd.R_drewN | apply Kd.R_drew)); exact Kd.R_mono HO_15.out (fun _ hk => hk.1)⟩, ⟨by repeat (first | (with_reducible first | exact HB.out | apply below_alloc | apply pw_below_drewN | apply below_drew1) | exact HB.out)⟩⟩
                                      · replace c69 := Bool.eq_false_iff.mpr c69
                                        subst c69
                                        have H1 : (laws_FnPairsNearOfAll.j2 k2 a0 a1 a2 a3 a4 t363 t371 t372 t373 true) = some r := by rw [if_neg (show ¬ (false = true) by decide)] at H; exact H
                                        clear H
                                        have H := H1
                                        clear H1
                                        have H' := Aside0.mk H
                                        clear H
                                        go_wp2_with (first | ((with_reducible refine gate_callee (f := 11) rfl ?_); refine goesL_ (some 146) rfl rfl Tryd.func11 (by kernel_rfl) rfl #[.slice Ao47 t363.length co47, .string a0] rfl (by (try simp only [List.map_toArray, List.map_cons, List.map_nil]); first | done | rfl | (simp only [List.length_drop, List.length_take]; rfl)) ?_; (with_reducible refine (laws_yText.calls k2 _ _ t363 a0 false _ ?side1 ?side2 A68.out).mono ?_); (case side1 => repeat (first | exact (Kd.R_reads' HO_11.out).2.2 | (with_reducible refine Kd.C_alloc ?_ _) | (with_reducible refine Kd.C_drewN ?_ _) | (with_reducible refine Kd.C_drew ?_))); (case side2 => exact (Kd.R_reads' HO_11.out).2.1); rintro e w' ⟨rfl, ⟨nd, rfl⟩⟩; refine ⟨_, rfl, ?_⟩))
                                        go_meet
                                        case rel => exact ⟨_, (true), (by first | rfl | (simp; done) | (simp [*]; done)), H', ⟨by have := HJ10.out; have := HK2.out; first | omega | exact Nat.le_refl _⟩, ⟨by (with_reducible repeat (first | apply Kd.R_alloc | apply Kd.R_drewN | apply Kd.R_drew)); exact HO_11.out⟩, ⟨by (with_reducible repeat (first | apply Kd.R_alloc | apply Kd.R_drewN | apply Kd.R_drew)); exact Kd.R_mono HO_15.out (fun _ hk => hk.1)⟩, ⟨by repeat (first | (with_reducible first | exact HB.out | apply below_alloc | apply pw_below_drewN | apply below_drew1) | exact HB.out)⟩⟩
                                  case rest =>
                                    as_aux_lemma =>
                                      clear HC67
                                      try clear c1
                                      try clear c2
                                      try clear p2
                                      try clear c3
                                      try clear p3
                                      try clear q3
                                      try clear hx3
                                      try clear c4
                                      try clear c5
                                      try clear c6
                                      try clear c6b0
                                      try clear c6b1
                                      try clear p6
                                      try clear c7
                                      try clear c9
                                      try clear c10
                                      try clear c11
                                      try clear c16
                                      try clear c16b0
                                      try clear c16b1
                                      try clear c16b2
                                      try clear c18
                                      try clear c19
                                      try clear c19b0
                                      try clear c19b1
                                      try clear c19b2
                                      try clear c23
                                      try clear c24
                                      try clear c24b0
                                      try clear c24b1
                                      try clear c25
                                      try clear p38
                                      try clear q38
                                      try clear hx38
                                      try clear c44
                                      try clear c46
                                      try clear c48
                                      try clear c48b0
                                      try clear c49
                                      try clear c49b0
                                      try clear c50
                                      try clear c50b0
                                      try clear c53
                                      try clear c54
                                      try clear c54b0
                                      try clear c57
                                      try clear c58
                                      try clear c58b0
                                      try clear p64
                                      try clear c69
                                      try clear c70
                                      try clear c70b0
                                      try clear c70b1
                                      try clear hx383_0
                                      try clear p2
                                      try clear p383
                                      try clear q383
                                      obtain ⟨kq, x156_66, rfl, HA, HJ66, HO_11, HO_15, HB⟩ := hcut
                                      cases kq with
                                      | zero => exact absurd HA.out (by simp [laws_FnPairsNearOfAll.j2])
                                      | succ kj66 =>
                                        have H := HA.out
                                        clear HA
                                        simp only [laws_FnPairsNearOfAll.j2] at H
                                        by_cases c71 : x156_66 = true
                                        · subst c71
                                          have H1 : (some false) = some r := by rw [if_pos rfl] at H; exact H
                                          clear H
                                          have H := H1
                                          clear H1
                                          obtain rfl := Option.some.inj H
                                          go_wp2
                                          go_ret
                                          exact ⟨by first | rfl | (simp [errW_none, errW_some] <;> rfl) | (simp [*, errW_none, errW_some] <;> rfl), by repeat (first | (with_reducible first | exact HB.out | apply below_alloc | apply pw_below_drewN | apply below_drew1) | exact HB.out)⟩
                                        · as_aux_lemma =>
                                            replace c71 := Bool.eq_false_iff.mpr c71
                                            subst c71
                                            have H1 : (if a1 > 0 then ((impl_NearByPairs.f kj66 a0 (wrap64 (a1 - 1))).bind fun bt389 => (if bt389.2 = true then (if (bt389.1.length : Int) > (t363.length : Int) then (some false) else (if a1 ≤ t372 then (if (bt389.1.length : Int) = (t363.length : Int) then (some false) else (laws_FnPairsNearOfAll.j3 kj66 a0 a2 a3 a4 t371 t372 t373)) else (laws_FnPairsNearOfAll.j3 kj66 a0 a2 a3 a4 t371 t372 t373))) else (some false))) else (laws_FnPairsNearOfAll.j3 kj66 a0 a2 a3 a4 t371 t372 t373)) = some r := by rw [if_neg (show ¬ (false = true) by decide)] at H; exact H
                                            clear H
                                            have H := H1
                                            clear H1
                                            by_cases c72 : a1 > 0
                                            · as_aux_lemma =>
                                                rw [if_pos c72] at H
                                                have c72b0 : decide (0 < a1) = true := decide_eq_true c72
                                                clear c72
                                                replace H := Option.bind_eq_some_iff.mp H
                                                obtain ⟨⟨t389, t390⟩, A730, H⟩ := H
                                                replace H : (if t390 = true then (if (t389.length : Int) > (t363.length : Int) then (some false) else (if a1 ≤ t372 then (if (t389.length : Int) = (t363.length : Int) then (some false) else (laws_FnPairsNearOfAll.j3 kj66 a0 a2 a3 a4 t371 t372 t373)) else (laws_FnPairsNearOfAll.j3 kj66 a0 a2 a3 a4 t371 t372 t373))) else (some false)) = some r := H
                                                have A73 := Aside0.mk A730
                                                clear A730
                                                by_cases c74 : t390 = true
                                                · subst c74
                                                  have H1 : (if (t389.length : Int) > (t363.length : Int) then (some false) else (if a1 ≤ t372 then (if (t389.length : Int) = (t363.length : Int) then (some false) else (laws_FnPairsNearOfAll.j3 kj66 a0 a2 a3 a4 t371 t372 t373)) else (laws_FnPairsNearOfAll.j3 kj66 a0 a2 a3 a4 t371 t372 t373))) = some r := by rw [if_pos rfl] at H; exact H
                                                  clear H
                                                  have H := H1
                                                  clear H1
                                                  by_cases c75 : (t389.length : Int) > (t363.length : Int)
                                                  · rw [if_pos c75] at H
                                                    have c75b0 : decide ((t363.length : Int) < (t389.length : Int)) = true := decide_eq_true c75
                                                    have c75b1 : decide (t363.length < t389.length) = true := decide_eq_true (Int.ofNat_lt.mp c75)
                                                    clear c75
                                                    obtain rfl := Option.some.inj H
                                                    go_wp2_with (first | ((with_reducible refine gate_callee (f := 4) rfl ?_); refine goesL_ (some 163) rfl rfl Tryd.func4 (by kernel_rfl) rfl #[.string a0, .int .i64 (wrap64 (a1 - 1))] rfl (by (try simp only [List.map_toArray, List.map_cons, List.map_nil]); first | done | rfl | (simp only [List.length_drop, List.length_take]; rfl)) ?_; (with_reducible refine (impl_NearByPairs.calls kj66 a0 (wrap64 (a1 - 1)) t389 true _ A73.out).mono ?_); rintro e w76 ⟨v391, rfl, ho0, hb⟩; refine ⟨_, rfl, ?_⟩; have n0_ := Aside0.mk (Kd.R_elder' (by (with_reducible repeat (first | apply Kd.R_alloc | apply Kd.R_drewN | apply Kd.R_drew)); exact HO_11.out) (Kd.R_base ho0) hb); have n1_ := Aside0.mk (Kd.R_elder' (by (with_reducible repeat (first | apply Kd.R_alloc | apply Kd.R_drewN | apply Kd.R_drew)); exact HO_15.out) (Kd.R_base ho0) hb); have n2_ := Aside0.mk (Kd.R_lower (Kd.R_new' (Kd.R_new' ho0 (Kd.R_lt (by (with_reducible repeat (first | apply Kd.R_alloc | apply Kd.R_drewN | apply Kd.R_drew)); exact HO_11.out))) (Kd.R_lt (by (with_reducible repeat (first | apply Kd.R_alloc | apply Kd.R_drewN | apply Kd.R_drew)); exact HO_15.out))) (below_size (by repeat (first | (with_reducible first | exact HB.out | apply below_alloc | apply pw_below_drewN | apply below_drew1) | exact HB.out)))); have n3_ := Aside0.mk (below_step (by repeat (first | (with_reducible first | exact HB.out | apply below_alloc | apply pw_below_drewN | apply below_drew1) | exact HB.out)) hb); clear HO_11; clear HO_15; clear HB; have HO_11 := n0_; have HO_15 := n1_; have HO392 := n2_; have HB := n3_; clear n0_ n1_ n2_ n3_; (try clear hb); (try clear hb2); (try clear hk); (try clear hi); (try clear ho0); obtain ⟨Ao77, co77, eo77⟩ := Kd.R_slice HO392.out; subst eo77))
                                                    go_ret
                                                    exact ⟨by first | rfl | (simp [errW_none, errW_some] <;> rfl) | (simp [*, errW_none, errW_some] <;> rfl), by repeat (first | (with_reducible first | exact HB.out | apply below_alloc | apply pw_below_drewN | apply below_drew1) | exact HB.out)⟩
                                                  · rw [if_neg c75] at H
                                                    have c75b0 : decide ((t363.length : Int) < (t389.length : Int)) = false := decide_eq_false c75
                                                    have c75b1 : decide (t363.length < t389.length) = false := decide_eq_false (fun h => c75 (Int.ofNat_lt.mpr h))
                                                    clear c75
                                                    by_cases c78 : a1 ≤ t372
                                                    · rw [if_pos c78] at H
                                                      have c78b0 : decide (a1 ≤ t372) = true := decide_eq_true c78
                                                      clear c78
                                                      by_cases c79 : (t389.length : Int) = (t363.length : Int)
                                                      · rw [if_pos c79] at H
                                                        have c79b0 : ((t389.length : Int) == (t363.length : Int)) = true := beq_iff_eq.mpr c79
                                                        have c79b1 : ((t389.length : Int) != (t363.length : Int)) = false := bne_eq_false_iff_eq.mpr c79
                                                        have c79b2 : (t389.length == t363.length) = true := by first | simpa using c79 | (simp at c79 ⊢; omega)
                                                        clear c79
                                                        obtain rfl := Option.some.inj H
                                                        go_wp2_with (first | ((with_reducible refine gate_callee (f := 4) rfl ?_); refine goesL_ (some 163) rfl rfl Tryd.func4 (by kernel_rfl) rfl #[.string a0, .int .i64 (wrap64 (a1 - 1))] rfl (by (try simp only [List.map_toArray, List.map_cons, List.map_nil]); first | done | rfl | (simp only [List.length_drop, List.length_take]; rfl)) ?_; (with_reducible refine (impl_NearByPairs.calls kj66 a0 (wrap64 (a1 - 1)) t389 true _ A73.out).mono ?_); rintro e w80 ⟨v391, rfl, ho0, hb⟩; refine ⟨_, rfl, ?_⟩; have n0_ := Aside0.mk (Kd.R_elder' (by (with_reducible repeat (first | apply Kd.R_alloc | apply Kd.R_drewN | apply Kd.R_drew)); exact HO_11.out) (Kd.R_base ho0) hb); have n1_ := Aside0.mk (Kd.R_elder' (by (with_reducible repeat (first | apply Kd.R_alloc | apply Kd.R_drewN | apply Kd.R_drew)); exact HO_15.out) (Kd.R_base ho0) hb); have n2_ := Aside0.mk (Kd.R_lower (Kd.R_new' (Kd.R_new' ho0 (Kd.R_lt (by (with_reducible repeat (first | apply Kd.R_alloc | apply Kd.R_drewN | apply Kd.R_drew)); exact HO_11.out))) (Kd.R_lt (by (with_reducible repeat (first | apply Kd.R_alloc | apply Kd.R_drewN | apply Kd.R_drew)); exact HO_15.out))) (below_size (by repeat (first | (with_reducible first | exact HB.out | apply below_alloc | apply pw_below_drewN | apply below_drew1) | exact HB.out)))); have n3_ := Aside0.mk (below_step (by repeat (first | (with_reducible first | exact HB.out | apply below_alloc | apply pw_below_drewN | apply below_drew1) | exact HB.out)) hb); clear HO_11; clear HO_15; clear HB; have HO_11 := n0_; have HO_15 := n1_; have HO392 := n2_; have HB := n3_; clear n0_ n1_ n2_ n3_; (try clear hb); (try clear hb2); (try clear hk); (try clear hi); (try clear ho0); obtain ⟨Ao81, co81, eo81⟩ := Kd.R_slice HO392.out; subst eo81))
                                                        go_ret
                                                        exact ⟨by first | rfl | (simp [errW_none, errW_some] <;> rfl) | (simp [*, errW_none, errW_some] <;> rfl), by repeat (first | (with_reducible first | exact HB.out | apply below_alloc | apply pw_below_drewN | apply below_drew1) | exact HB.out)⟩
                                                      · rw [if_neg c79] at H
                                                        have c79b0 : ((t389.length : Int) == (t363.length : Int)) = false := beq_eq_false_iff_ne.mpr c79
                                                        have c79b1 : ((t389.length : Int) != (t363.length : Int)) = true := bne_iff_ne.mpr c79
                                                        have c79b2 : (t389.length == t363.length) = false := by first | simpa using c79 | (simp at c79 ⊢; omega)
                                                        have H' := Aside0.mk H
                                                        clear H
                                                        go_wp2_with (first | ((with_reducible refine gate_callee (f := 4) rfl ?_); refine goesL_ (some 163) rfl rfl Tryd.func4 (by kernel_rfl) rfl #[.string a0, .int .i64 (wrap64 (a1 - 1))] rfl (by (try simp only [List.map_toArray, List.map_cons, List.map_nil]); first | done | rfl | (simp only [List.length_drop, List.length_take]; rfl)) ?_; (with_reducible refine (impl_NearByPairs.calls kj66 a0 (wrap64 (a1 - 1)) t389 true _ A73.out).mono ?_); rintro e w82 ⟨v391, rfl, ho0, hb⟩; refine ⟨_, rfl, ?_⟩; have n0_ := Aside0.mk (Kd.R_elder' (by (with_reducible repeat (first | apply Kd.R_alloc | apply Kd.R_drewN | apply Kd.R_drew)); exact HO_11.out) (Kd.R_base ho0) hb); have n1_ := Aside0.mk (Kd.R_elder' (by (with_reducible repeat (first | apply Kd.R_alloc | apply Kd.R_drewN | apply Kd.R_drew)); exact HO_15.out) (Kd.R_base ho0) hb); have n2_ := Aside0.mk (Kd.R_lower (Kd.R_new' (Kd.R_new' ho0 (Kd.R_lt (by (with_reducible repeat (first | apply Kd.R_alloc | apply Kd.R_drewN | apply Kd.R_drew)); exact HO_11.out))) (Kd.R_lt (by (with_reducible repeat (first | apply Kd.R_alloc | apply Kd.R_drewN | apply Kd.R_drew)); exact HO_15.out))) (below_size (by repeat (first | (with_reducible first | exact HB.out | apply below_alloc | apply pw_below_drewN | apply below_drew1) | exact HB.out)))); have n3_ := Aside0.mk (below_step (by repeat (first | (with_reducible first | exact HB.out | apply below_alloc | apply pw_below_drewN | apply below_drew1) | exact HB.out)) hb); clear HO_11; clear HO_15; clear HB; have HO_11 := n0_; have HO_15 := n1_; have HO392 := n2_; have HB := n3_; clear n0_ n1_ n2_ n3_; (try clear hb); (try clear hb2); (try clear hk); (try clear hi); (try clear ho0); obtain ⟨Ao83, co83, eo83⟩ := Kd.R_slice HO392.out; subst eo83))
                                                        go_meet
                                                        case rel => exact ⟨_, H', ⟨by have := HJ10.out; have := HK2.out; have := HJ66.out; first | omega | exact Nat.le_refl _⟩, ⟨by (with_reducible repeat (first | apply Kd.R_alloc | apply Kd.R_drewN | apply Kd.R_drew)); exact Kd.R_mono HO_15.out (fun _ hk => trivial)⟩, ⟨by repeat (first | (with_reducible first | exact HB.out | apply below_alloc | apply pw_below_drewN | apply below_drew1) | exact HB.out)⟩⟩
                                                    · rw [if_neg c78] at H
                                                      have c78b0 : decide (a1 ≤ t372) = false := decide_eq_false c78
                                                      clear c78
                                                      have H' := Aside0.mk H
                                                      clear H
                                                      go_wp2_with (first | ((with_reducible refine gate_callee (f := 4) rfl ?_); refine goesL_ (some 163) rfl rfl Tryd.func4 (by kernel_rfl) rfl #[.string a0, .int .i64 (wrap64 (a1 - 1))] rfl (by (try simp only [List.map_toArray, List.map_cons, List.map_nil]); first | done | rfl | (simp only [List.length_drop, List.length_take]; rfl)) ?_; (with_reducible refine (impl_NearByPairs.calls kj66 a0 (wrap64 (a1 - 1)) t389 true _ A73.out).mono ?_); rintro e w84 ⟨v391, rfl, ho0, hb⟩; refine ⟨_, rfl, ?_⟩; have n0_ := Aside0.mk (Kd.R_elder' (by (with_reducible repeat (first | apply Kd.R_alloc | apply Kd.R_drewN | apply Kd.R_drew)); exact HO_11.out) (Kd.R_base ho0) hb); have n1_ := Aside0.mk (Kd.R_elder' (by (with_reducible repeat (first | apply Kd.R_alloc | apply Kd.R_drewN | apply Kd.R_drew)); exact HO_15.out) (Kd.R_base ho0) hb); have n2_ := Aside0.mk (Kd.R_lower (Kd.R_new' (Kd.R_new' ho0 (Kd.R_lt (by (with_reducible repeat (first | apply Kd.R_alloc | apply Kd.R_drewN | apply Kd.R_drew)); exact HO_11.out))) (Kd.R_lt (by (with_reducible repeat (first | apply Kd.R_alloc | apply Kd.R_drewN | apply Kd.R_drew)); exact HO_15.out))) (below_size (by repeat (first | (with_reducible first | exact HB.out | apply below_alloc | apply pw_below_drewN | apply below_drew1) | exact HB.out)))); have n3_ := Aside0.mk (below_step (by repeat (first | (with_reducible first | exact HB.out | apply below_alloc | apply pw_below_drewN | apply below_drew1) | exact HB.out)) hb); clear HO_11; clear HO_15; clear HB; have HO_11 := n0_; have HO_15 := n1_; have HO392 := n2_; have HB := n3_; clear n0_ n1_ n2_ n3_; (try clear hb); (try clear hb2); (try clear hk); (try clear hi); (try clear ho0); obtain ⟨Ao85, co85, eo85⟩ := Kd.R_slice HO392.out; subst eo85))
                                                      go_meet
                                                      case rel => exact ⟨_, H', ⟨by have := HJ10.out; have := HK2.out; have := HJ66.out; first | omega | exact Nat.le_refl _⟩, ⟨by (with_reducible repeat (first | apply Kd.R_alloc | apply Kd.R_drewN | apply Kd.R_drew)); exact Kd.R_mono HO_15.out (fun _ hk => trivial)⟩, ⟨by repeat (first | (with_reducible first | exact HB.out | apply below_alloc | apply pw_below_drewN | apply below_drew1) | exact HB.out)⟩⟩
                                                · replace c74 := Bool.eq_false_iff.mpr c74
                                                  subst c74
                                                  have H1 : (some false) = some r := by rw [if_neg (show ¬ (false = true) by decide)] at H; exact H
                                                  clear H
                                                  have H := H1
                                                  clear H1
                                                  obtain rfl := Option.some.inj H
                                                  go_wp2_with (first | ((with_reducible refine gate_callee (f := 4) rfl ?_); refine goesL_ (some 163) rfl rfl Tryd.func4 (by kernel_rfl) rfl #[.string a0, .int .i64 (wrap64 (a1 - 1))] rfl (by (try simp only [List.map_toArray, List.map_cons, List.map_nil]); first | done | rfl | (simp only [List.length_drop, List.length_take]; rfl)) ?_; (with_reducible refine (impl_NearByPairs.calls kj66 a0 (wrap64 (a1 - 1)) t389 false _ A73.out).mono ?_); rintro e w86 ⟨v391, rfl, ho0, hb⟩; refine ⟨_, rfl, ?_⟩; have n0_ := Aside0.mk (Kd.R_elder' (by (with_reducible repeat (first | apply Kd.R_alloc | apply Kd.R_drewN | apply Kd.R_drew)); exact HO_11.out) (Kd.R_base ho0) hb); have n1_ := Aside0.mk (Kd.R_elder' (by (with_reducible repeat (first | apply Kd.R_alloc | apply Kd.R_drewN | apply Kd.R_drew)); exact HO_15.out) (Kd.R_base ho0) hb); have n2_ := Aside0.mk (Kd.R_lower (Kd.R_new' (Kd.R_new' ho0 (Kd.R_lt (by (with_reducible repeat (first | apply Kd.R_alloc | apply Kd.R_drewN | apply Kd.R_drew)); exact HO_11.out))) (Kd.R_lt (by (with_reducible repeat (first | apply Kd.R_alloc | apply Kd.R_drewN | apply Kd.R_drew)); exact HO_15.out))) (below_size (by repeat (first | (with_reducible first | exact HB.out | apply below_alloc | apply pw_below_drewN | apply below_drew1) | exact HB.out)))); have n3_ := Aside0.mk (below_step (by repeat (first | (with_reducible first | exact HB.out | apply below_alloc | apply pw_below_drewN | apply below_drew1) | exact HB.out)) hb); clear HO_11; clear HO_15; clear HB; have HO_11 := n0_; have HO_15 := n1_; have HO392 := n2_; have HB := n3_; clear n0_ n1_ n2_ n3_; (try clear hb); (try clear hb2); (try clear hk); (try clear hi); (try clear ho0)))
                                                  go_ret
                                                  exact ⟨by first | rfl | (simp [errW_none, errW_some] <;> rfl) | (simp [*, errW_none, errW_some] <;> rfl), by repeat (first | (with_reducible first | exact HB.out | apply below_alloc | apply pw_below_drewN | apply below_drew1) | exact HB.out)⟩
                                            · rw [if_neg c72] at H
                                              have c72b0 : decide (0 < a1) = false := decide_eq_false c72
                                              clear c72
                                              have H' := Aside0.mk H
                                              clear H
                                              go_wp2
                                              go_meet
                                              case rel => exact ⟨_, H', ⟨by have := HJ10.out; have := HK2.out; have := HJ66.out; first | omega | exact Nat.le_refl _⟩, ⟨by (with_reducible repeat (first | apply Kd.R_alloc | apply Kd.R_drewN | apply Kd.R_drew)); exact Kd.R_mono HO_15.out (fun _ hk => trivial)⟩, ⟨by repeat (first | (with_reducible first | exact HB.out | apply below_alloc | apply pw_below_drewN | apply below_drew1) | exact HB.out)⟩⟩
                    · replace c46 := Bool.eq_false_iff.mpr c46
                      subst c46
                      have H1 : (laws_FnPairsNearOfAll.j3 kj10 a0 a2 a3 a4 t371 t372 t373) = some r := by rw [if_neg (show ¬ (false = true) by decide)] at H; exact H
                      clear H
                      have H := H1
                      clear H1
                      have H' := Aside0.mk H
                      clear H
                      go_wp2
                      go_meet
                      case rel => exact ⟨_, H', ⟨by have := HJ10.out; first | omega | exact Nat.le_refl _⟩, ⟨by (with_reducible repeat (first | apply Kd.R_alloc | apply Kd.R_drewN | apply Kd.R_drew)); exact Kd.R_mono HO_15.out (fun _ hk => trivial)⟩, ⟨by repeat (first | (with_reducible first | exact HB.out | apply below_alloc | apply pw_below_drewN | apply below_drew1) | exact HB.out)⟩⟩
                case rest =>
                  as_aux_lemma =>
                    clear HC45
                    try clear c1
                    try clear c2
                    try clear p2
                    try clear c3
                    try clear p3
                    try clear q3
                    try clear hx3
                    try clear c4
                    try clear c5
                    try clear c6
                    try clear c6b0
                    try clear c6b1
                    try clear p6
                    try clear c7
                    try clear c9
                    try clear c10
                    try clear c11
                    try clear c16
                    try clear c16b0
                    try clear c16b1
                    try clear c16b2
                    try clear c18
                    try clear c19
                    try clear c19b0
                    try clear c19b1
                    try clear c19b2
                    try clear c23
                    try clear c24
                    try clear c24b0
                    try clear c24b1
                    try clear c25
                    try clear p38
                    try clear q38
                    try clear hx38
                    try clear c44
                    try clear c46
                    try clear c48
                    try clear c48b0
                    try clear c49
                    try clear c49b0
                    try clear c50
                    try clear c50b0
                    try clear c53
                    try clear c54
                    try clear c54b0
                    try clear c57
                    try clear c58
                    try clear c58b0
                    try clear p64
                    try clear c69
                    try clear c70
                    try clear c70b0
                    try clear c70b1
                    try clear c71
                    try clear c72
                    try clear c72b0
                    try clear c74
                    try clear c75
                    try clear c75b0
                    try clear c75b1
                    try clear c78
                    try clear c78b0
                    try clear c79
                    try clear c79b0
                    try clear c79b1
                    try clear c79b2
                    try clear hx383_0
                    try clear p2
                    try clear p3
                    try clear p38
                    try clear p383
                    try clear p6
                    try clear p64
                    try clear q3
                    try clear q38
                    try clear q383
                    obtain ⟨kq, HA, HJ44, HO_15, HB⟩ := hcut
                    cases kq with
                    | zero => exact absurd HA.out (by simp [laws_FnPairsNearOfAll.j3])
                    | succ kj44 =>
                      have H := HA.out
                      clear HA
                      simp only [laws_FnPairsNearOfAll.j3] at H
                      have HC87 := Aside0.mk H
                      clear H
                      go_upto_if 187 with (fail)
                      go_cut [] (fun wc => ∃ (kq : Nat), Aside0 (laws_FnPairsNearOfAll.j5 kq a2 a3 a4 = some r) ∧ Aside0 (kq ≤ kj44) ∧ Aside0 (Below w.heap.size w wc))
                      case first =>
                        as_aux_lemma =>
                          have H := HC87.out
                          clear HC87
                          by_cases c88 : t373 = true
                          · as_aux_lemma =>
                              subst c88
                              have H1 : (laws_FnPairsNearOfAll.l1 kj44 a0 a2 a3 a4 t371 t372 t371 (t371.length : Int) 0) = some r := by rw [if_pos rfl] at H; exact H
                              clear H
                              have H := H1
                              clear H1
                              have H' := Aside0.mk H
                              clear H
                              obtain ⟨Ao89, co89, eo89⟩ := Kd.R_slice HO_15.out
                              subst eo89
                              go_wp2
                              go_loopg [190] kj44 (fun kq v190 w' => ∃ (x190_3 : Int), v190 = .int .i64 x190_3 ∧ Aside0 (laws_FnPairsNearOfAll.l1 kq a0 a2 a3 a4 t371 t372 t371 (t371.length : Int) x190_3 = some r) ∧ Aside0 (kq ≤ kj44) ∧ Aside0 (Kd.R Kd.string 9 w' w.heap.size (fun _ => True) (.slice Ao89 t371.length co89) t371) ∧ Aside0 (Kd.R Kd.string 9 w' w.heap.size (fun _ => True) (.slice Ao89 t371.length co89) t371) ∧ Aside0 (Below w.heap.size w w'))
                              case atStart => exact ⟨(0), (by first | rfl | (simp; done) | (simp [*]; done)), H', ⟨Nat.le_refl _⟩, ⟨by (with_reducible repeat (first | apply Kd.R_alloc | apply Kd.R_drewN | apply Kd.R_drew)); exact HO_15.out⟩, ⟨by (with_reducible repeat (first | apply Kd.R_alloc | apply Kd.R_drewN | apply Kd.R_drew)); exact HO_15.out⟩, ⟨by repeat (first | (with_reducible first | exact HB.out | apply below_alloc | apply pw_below_drewN | apply below_drew1) | exact HB.out)⟩⟩
                              case round =>
                                as_aux_lemma =>
                                  clear H'
                                  try clear c1
                                  try clear c2
                                  try clear p2
                                  try clear c3
                                  try clear p3
                                  try clear q3
                                  try clear hx3
                                  try clear c4
                                  try clear c5
                                  try clear c6
                                  try clear c6b0
                                  try clear c6b1
                                  try clear p6
                                  try clear c7
                                  try clear c8
                                  try clear c9
                                  try clear c10
                                  try clear c11
                                  try clear c16
                                  try clear c16b0
                                  try clear c16b1
                                  try clear c16b2
                                  try clear c18
                                  try clear c19
                                  try clear c19b0
                                  try clear c19b1
                                  try clear c19b2
                                  try clear c23
                                  try clear c24
                                  try clear c24b0
                                  try clear c24b1
                                  try clear c25
                                  try clear p38
                                  try clear q38
                                  try clear hx38
                                  try clear c44
                                  try clear c46
                                  try clear c48
                                  try clear c48b0
                                  try clear c49
                                  try clear c49b0
                                  try clear c50
                                  try clear c50b0
                                  try clear c53
                                  try clear c54
                                  try clear c54b0
                                  try clear c57
                                  try clear c58
                                  try clear c58b0
                                  try clear p64
                                  try clear c69
                                  try clear c70
                                  try clear c70b0
                                  try clear c70b1
                                  try clear c71
                                  try clear c72
                                  try clear c72b0
                                  try clear c74
                                  try clear c75
                                  try clear c75b0
                                  try clear c75b1
                                  try clear c78
                                  try clear c78b0
                                  try clear c79
                                  try clear c79b0
                                  try clear c79b1
                                  try clear c79b2
                                  try clear c88
                                  try clear hx383_0
                                  try clear p2
                                  try clear p3
                                  try clear p38
                                  try clear p383
                                  try clear p6
                                  try clear p64
                                  try clear q3
                                  try clear q38
                                  try clear q383
                                  obtain ⟨x190_3, rfl, HA, HK3, HO_15, HO_188, HB⟩ := hrel
                                  cases gk with
                                  | zero => exact absurd HA.out (by simp [laws_FnPairsNearOfAll.l1])
                                  | succ k3 =>
                                    have H := HA.out
                                    clear HA
                                    simp only [laws_FnPairsNearOfAll.l1] at H
                                    by_cases c90 : x190_3 < (t371.length : Int)
                                    · as_aux_lemma =>
                                        rw [if_pos c90] at H
                                        have c90b0 : decide (x190_3 < (t371.length : Int)) = true := decide_eq_true c90
                                        clear c90
                                        (first | rw [c90b0] | (simp only [i64_w, i32_w]; rw [c90b0]) | skip)
                                        by_cases c91 : 0 ≤ x190_3
                                        · as_aux_lemma =>
                                            rw [if_pos c91] at H
                                            have c91b0 : decide (0 ≤ x190_3) = true := decide_eq_true c91
                                            clear c91
                                            by_cases c92 : x190_3 < (t371.length : Int)
                                            · as_aux_lemma =>
                                                rw [if_pos c92] at H
                                                have c92b0 : decide (x190_3 < (t371.length : Int)) = true := decide_eq_true c92
                                                clear c92
                                                replace H := Option.bind_eq_some_iff.mp H
                                                obtain ⟨⟨t394, t395⟩, A930, H⟩ := H
                                                replace H : (if x190_3 < 4 then (if t395 = true then (if t394 = t372 then (laws_FnPairsNearOfAll.l1 k3 a0 a2 a3 a4 t371 t372 t371 (t371.length : Int) (wrap64 (x190_3 + 1))) else (some false)) else (some false)) else (laws_FnPairsNearOfAll.l1 k3 a0 a2 a3 a4 t371 t372 t371 (t371.length : Int) (wrap64 (x190_3 + 1)))) = some r := H
                                                have A93 := Aside0.mk A930
                                                clear A930
                                                by_cases c94 : x190_3 < 4
                                                · rw [if_pos c94] at H
                                                  have c94b0 : decide (x190_3 < 4) = true := decide_eq_true c94
                                                  clear c94
                                                  by_cases c95 : t395 = true
                                                  · subst c95
                                                    have H1 : (if t394 = t372 then (laws_FnPairsNearOfAll.l1 k3 a0 a2 a3 a4 t371 t372 t371 (t371.length : Int) (wrap64 (x190_3 + 1))) else (some false)) = some r := by rw [if_pos rfl] at H; exact H
                                                    clear H
                                                    have H := H1
                                                    clear H1
                                                    by_cases c96 : t394 = t372
                                                    · rw [if_pos c96] at H
                                                      have c96b0 : (t394 == t372) = true := beq_iff_eq.mpr c96
                                                      have c96b1 : (t394 != t372) = false := bne_eq_false_iff_eq.mpr c96
                                                      clear c96
                                                      have H' := Aside0.mk H
                                                      clear H
                                                      have p393 : 0 ≤ (x190_3 : Int) := of_decide_eq_true (by first | (with_reducible assumption) | assumption)
                                                      have q393 : x190_3 < (t371.length : Int) := of_decide_eq_true (by first | (with_reducible assumption) | assumption)
                                                      obtain ⟨ad393, e393, hx393_0⟩ := Kd.at_string (Kd.R_reads' HO_188.out).2.2 x190_3 p393 q393
                                                      cases e393
                                                      replace p393 := eq_true p393
                                                      replace q393 := eq_true q393
                                                      go_wp2_with (first | ((with_reducible refine gate_callee (f := 10) rfl ?_); refine goesL_ (some 198) rfl rfl Tryd.func10 (by kernel_rfl) rfl #[.string a0, .string (rdOf ByteArray.empty t371 x190_3)] rfl (by (try simp only [List.map_toArray, List.map_cons, List.map_nil]); first | done | rfl | (simp only [List.length_drop, List.length_take]; rfl)) ?_; (with_reducible refine (impl_FewestPairMoves.calls k3 a0 (rdOf ByteArray.empty t371 x190_3) t394 true _ A93.out).mono ?_); rintro e w97 ⟨rfl, hb⟩; refine ⟨_, rfl, ?_⟩; have n0_ := Aside0.mk (Kd.R_below (by (with_reducible repeat (first | apply Kd.R_alloc | apply Kd.R_drewN | apply Kd.R_drew)); exact HO_15.out) hb); have n1_ := Aside0.mk (Kd.R_below (by (with_reducible repeat (first | apply Kd.R_alloc | apply Kd.R_drewN | apply Kd.R_drew)); exact HO_188.out) hb); have n2_ := Aside0.mk (below_step (by repeat (first | (with_reducible first | exact HB.out | apply below_alloc | apply pw_below_drewN | apply below_drew1) | exact HB.out)) hb); clear HO_15; clear HO_188; clear HB; have HO_15 := n0_; have HO_188 := n1_; have HB := n2_; clear n0_ n1_ n2_; (try clear hb); (try clear hb2); (try clear hk); (try clear hi)))
                                                      go_roundg k3
                                                      case measure => have := HJ10.out; have := HJ44.out; have := HK3.out; omega
                                                      case rel => exact ⟨(wrap64 (x190_3 + 1)), (by first | rfl | (simp; done) | (simp [*]; done)), H', ⟨by have := HJ10.out; have := HJ44.out; have := HK3.out; omega⟩, ⟨by (with_reducible repeat (first | apply Kd.R_alloc | apply Kd.R_drewN | apply Kd.R_drew)); exact HO_15.out⟩, ⟨by (with_reducible repeat (first | apply Kd.R_alloc | apply Kd.R_drewN | apply Kd.R_drew)); exact HO_188.out⟩, ⟨by repeat (first | (with_reducible first | exact HB.out | apply below_alloc | apply pw_below_drewN | apply below_drew1) | exact HB.out)⟩⟩
                                                    · rw [if_neg c96] at H
                                                      have c96b0 : (t394 == t372) = false := beq_eq_false_iff_ne.mpr c96
                                                      have c96b1 : (t394 != t372) = true := bne_iff_ne.mpr c96
                                                      obtain rfl := Option.some.inj H
                                                      have p393 : 0 ≤ (x190_3 : Int) := of_decide_eq_true (by first | (with_reducible assumption) | assumption)
                                                      have q393 : x190_3 < (t371.length : Int) := of_decide_eq_true (by first | (with_reducible assumption) | assumption)
                                                      obtain ⟨ad393, e393, hx393_0⟩ := Kd.at_string (Kd.R_reads' HO_188.out).2.2 x190_3 p393 q393
                                                      cases e393
                                                      replace p393 := eq_true p393
                                                      replace q393 := eq_true q393
                                                      go_wp2_with (first | ((with_reducible refine gate_callee (f := 10) rfl ?_); refine goesL_ (some 198) rfl rfl Tryd.func10 (by kernel_rfl) rfl #[.string a0, .string (rdOf ByteArray.empty t371 x190_3)] rfl (by (try simp only [List.map_toArray, List.map_cons, List.map_nil]); first | done | rfl | (simp only [List.length_drop, List.length_take]; rfl)) ?_; (with_reducible refine (impl_FewestPairMoves.calls k3 a0 (rdOf ByteArray.empty t371 x190_3) t394 true _ A93.out).mono ?_); rintro e w98 ⟨rfl, hb⟩; refine ⟨_, rfl, ?_⟩; have n0_ := Aside0.mk (Kd.R_below (by (with_reducible repeat (first | apply Kd.R_alloc | apply Kd.R_drewN | apply Kd.R_drew)); exact HO_15.out) hb); have n1_ := Aside0.mk (Kd.R_below (by (with_reducible repeat (first | apply Kd.R_alloc | apply Kd.R_drewN | apply Kd.R_drew)); exact HO_188.out) hb); have n2_ := Aside0.mk (below_step (by repeat (first | (with_reducible first | exact HB.out | apply below_alloc | apply pw_below_drewN | apply below_drew1) | exact HB.out)) hb); clear HO_15; clear HO_188; clear HB; have HO_15 := n0_; have HO_188 := n1_; have HB := n2_; clear n0_ n1_ n2_; (try clear hb); (try clear hb2); (try clear hk); (try clear hi)))
                                                      go_ret
                                                      exact ⟨by first | rfl | (simp [errW_none, errW_some] <;> rfl) | (simp [*, errW_none, errW_some] <;> rfl), by repeat (first | (with_reducible first | exact HB.out | apply below_alloc | apply pw_below_drewN | apply below_drew1) | exact HB.out)⟩
                                                  · replace c95 := Bool.eq_false_iff.mpr c95
                                                    subst c95
                                                    have H1 : (some false) = some r := by rw [if_neg (show ¬ (false = true) by decide)] at H; exact H
                                                    clear H
                                                    have H := H1
                                                    clear H1
                                                    obtain rfl := Option.some.inj H
                                                    have p393 : 0 ≤ (x190_3 : Int) := of_decide_eq_true (by first | (with_reducible assumption) | assumption)
                                                    have q393 : x190_3 < (t371.length : Int) := of_decide_eq_true (by first | (with_reducible assumption) | assumption)
                                                    obtain ⟨ad393, e393, hx393_0⟩ := Kd.at_string (Kd.R_reads' HO_188.out).2.2 x190_3 p393 q393
                                                    cases e393
                                                    replace p393 := eq_true p393
                                                    replace q393 := eq_true q393
                                                    go_wp2_with (first | ((with_reducible refine gate_callee (f := 10) rfl ?_); refine goesL_ (some 198) rfl rfl Tryd.func10 (by kernel_rfl) rfl #[.string a0, .string (rdOf ByteArray.empty t371 x190_3)] rfl (by (try simp only [List.map_toArray, List.map_cons, List.map_nil]); first | done | rfl | (simp only [List.length_drop, List.length_take]; rfl)) ?_; (with_reducible refine (impl_FewestPairMoves.calls k3 a0 (rdOf ByteArray.empty t371 x190_3) t394 false _ A93.out).mono ?_); rintro e w99 ⟨rfl, hb⟩; refine ⟨_, rfl, ?_⟩; have n0_ := Aside0.mk (Kd.R_below (by (with_reducible repeat (first | apply Kd.R_alloc | apply Kd.R_drewN | apply Kd.R_drew)); exact HO_15.out) hb); have n1_ := Aside0.mk (Kd.R_below (by (with_reducible repeat (first | apply Kd.R_alloc | apply Kd.R_drewN | apply Kd.R_drew)); exact HO_188.out) hb); have n2_ := Aside0.mk (below_step (by repeat (first | (with_reducible first | exact HB.out | apply below_alloc | apply pw_below_drewN | apply below_drew1) | exact HB.out)) hb); clear HO_15; clear HO_188; clear HB; have HO_15 := n0_; have HO_188 := n1_; have HB := n2_; clear n0_ n1_ n2_; (try clear hb); (try clear hb2); (try clear hk); (try clear hi)))
                                                    go_ret
                                                    exact ⟨by first | rfl | (simp [errW_none, errW_some] <;> rfl) | (simp [*, errW_none, errW_some] <;> rfl), by repeat (first | (with_reducible first | exact HB.out | apply below_alloc | apply pw_below_drewN | apply below_drew1) | exact HB.out)⟩
                                                · rw [if_neg c94] at H
                                                  have c94b0 : decide (x190_3 < 4) = false := decide_eq_false c94
                                                  clear c94
                                                  have H' := Aside0.mk H
                                                  clear H
                                                  have p393 : 0 ≤ (x190_3 : Int) := of_decide_eq_true (by first | (with_reducible assumption) | assumption)
                                                  have q393 : x190_3 < (t371.length : Int) := of_decide_eq_true (by first | (with_reducible assumption) | assumption)
                                                  obtain ⟨ad393, e393, hx393_0⟩ := Kd.at_string (Kd.R_reads' HO_188.out).2.2 x190_3 p393 q393
                                                  cases e393
                                                  replace p393 := eq_true p393
                                                  replace q393 := eq_true q393
                                                  go_wp2_with (first | ((with_reducible refine gate_callee (f := 10) rfl ?_); refine goesL_ (some 198) rfl rfl Tryd.func10 (by kernel_rfl) rfl #[.string a0, .string (rdOf ByteArray.empty t371 x190_3)] rfl (by (try simp only [List.map_toArray, List.map_cons, List.map_nil]); first | done | rfl | (simp only [List.length_drop, List.length_take]; rfl)) ?_; (with_reducible refine (impl_FewestPairMoves.calls k3 a0 (rdOf ByteArray.empty t371 x190_3) t394 t395 _ A93.out).mono ?_); rintro e w100 ⟨rfl, hb⟩; refine ⟨_, rfl, ?_⟩; have n0_ := Aside0.mk (Kd.R_below (by (with_reducible repeat (first | apply Kd.R_alloc | apply Kd.R_drewN | apply Kd.R_drew)); exact HO_15.out) hb); have n1_ := Aside0.mk (Kd.R_below (by (with_reducible repeat (first | apply Kd.R_alloc | apply Kd.R_drewN | apply Kd.R_drew)); exact HO_188.out) hb); have n2_ := Aside0.mk (below_step (by repeat (first | (with_reducible first | exact HB.out | apply below_alloc | apply pw_below_drewN | apply below_drew1) | exact HB.out)) hb); clear HO_15; clear HO_188; clear HB; have HO_15 := n0_; have HO_188 := n1_; have HB := n2_; clear n0_ n1_ n2_; (try clear hb); (try clear hb2); (try clear hk); (try clear hi)))
                                                  go_roundg k3
                                                  case measure => have := HJ10.out; have := HJ44.out; have := HK3.out; omega
                                                  case rel => exact ⟨(wrap64 (x190_3 + 1)), (by first | rfl | (simp; done) | (simp [*]; done)), H', ⟨by have := HJ10.out; have := HJ44.out; have := HK3.out; omega⟩, ⟨by (with_reducible repeat (first | apply Kd.R_alloc | apply Kd.R_drewN | apply Kd.R_drew)); exact HO_15.out⟩, ⟨by (with_reducible repeat (first | apply Kd.R_alloc | apply Kd.R_drewN | apply Kd.R_drew)); exact HO_188.out⟩, ⟨by repeat (first | (with_reducible first | exact HB.out | apply below_alloc | apply pw_below_drewN | apply below_drew1) | exact HB.out)⟩⟩
                                            · rw [if_neg c92] at H
                                              exact absurd H (by simp)
                                        · rw [if_neg c91] at H
                                          exact absurd H (by simp)
                                    · rw [if_neg c90] at H
                                      have c90b0 : decide (x190_3 < (t371.length : Int)) = false := decide_eq_false c90
                                      clear c90
                                      (first | rw [c90b0] | (simp only [i64_w, i32_w]; rw [c90b0]) | skip)
                                      by_cases c101 : (t371.length : Int) < 1
                                      · rw [if_pos c101] at H
                                        have c101b0 : decide ((t371.length : Int) < 1) = true := decide_eq_true c101
                                        have c101b1 : decide (t371.length < 1) = true := decide_eq_true (by omega)
                                        clear c101
                                        obtain rfl := Option.some.inj H
                                        go_wp2
                                        go_ret
                                        exact ⟨by first | rfl | (simp [errW_none, errW_some] <;> rfl) | (simp [*, errW_none, errW_some] <;> rfl), by repeat (first | (with_reducible first | exact HB.out | apply below_alloc | apply pw_below_drewN | apply below_drew1) | exact HB.out)⟩
                                      · rw [if_neg c101] at H
                                        have c101b0 : decide ((t371.length : Int) < 1) = false := decide_eq_false c101
                                        have c101b1 : decide (t371.length < 1) = false := decide_eq_false (by omega)
                                        clear c101
                                        by_cases c102 : t372 < 1
                                        · rw [if_pos c102] at H
                                          have c102b0 : decide (t372 < 1) = true := decide_eq_true c102
                                          clear c102
                                          obtain rfl := Option.some.inj H
                                          go_wp2
                                          go_ret
                                          exact ⟨by first | rfl | (simp [errW_none, errW_some] <;> rfl) | (simp [*, errW_none, errW_some] <;> rfl), by repeat (first | (with_reducible first | exact HB.out | apply below_alloc | apply pw_below_drewN | apply below_drew1) | exact HB.out)⟩
                                        · rw [if_neg c102] at H
                                          have c102b0 : decide (t372 < 1) = false := decide_eq_false c102
                                          clear c102
                                          have H' := Aside0.mk H
                                          clear H
                                          go_wp2
                                          go_meet
                                          case rel => exact ⟨_, H', ⟨by have := HJ10.out; have := HJ44.out; have := HK3.out; first | omega | exact Nat.le_refl _⟩, ⟨by repeat (first | (with_reducible first | exact HB.out | apply below_alloc | apply pw_below_drewN | apply below_drew1) | exact HB.out)⟩⟩
                          · replace c88 := Bool.eq_false_iff.mpr c88
                            subst c88
                            have H1 : (laws_FnPairsNearOfAll.j5 kj44 a2 a3 a4) = some r := by rw [if_neg (show ¬ (false = true) by decide)] at H; exact H
                            clear H
                            have H := H1
                            clear H1
                            have H' := Aside0.mk H
                            clear H
                            go_wp2
                            go_meet
                            case rel => exact ⟨_, H', ⟨by have := HJ10.out; have := HJ44.out; first | omega | exact Nat.le_refl _⟩, ⟨by repeat (first | (with_reducible first | exact HB.out | apply below_alloc | apply pw_below_drewN | apply below_drew1) | exact HB.out)⟩⟩
                      case rest =>
                        as_aux_lemma =>
                          clear HC87
                          try clear c1
                          try clear c2
                          try clear p2
                          try clear c3
                          try clear p3
                          try clear q3
                          try clear hx3
                          try clear c4
                          try clear c5
                          try clear c6
                          try clear c6b0
                          try clear c6b1
                          try clear p6
                          try clear c7
                          try clear c8
                          try clear c9
                          try clear c10
                          try clear c11
                          try clear c16
                          try clear c16b0
                          try clear c16b1
                          try clear c16b2
                          try clear c18
                          try clear c19
                          try clear c19b0
                          try clear c19b1
                          try clear c19b2
                          try clear c23
                          try clear c24
                          try clear c24b0
                          try clear c24b1
                          try clear c25
                          try clear p38
                          try clear q38
                          try clear hx38
                          try clear p39
                          try clear q39
                          try clear hx39
                          try clear c44
                          try clear c46
                          try clear c48
                          try clear c48b0
                          try clear c49
                          try clear c49b0
                          try clear c50
                          try clear c50b0
                          try clear c53
                          try clear c54
                          try clear c54b0
                          try clear c57
                          try clear c58
                          try clear c58b0
                          try clear p64
                          try clear c69
                          try clear c70
                          try clear c70b0
                          try clear c70b1
                          try clear c71
                          try clear c72
                          try clear c72b0
                          try clear c74
                          try clear c75
                          try clear c75b0
                          try clear c75b1
                          try clear c78
                          try clear c78b0
                          try clear c79
                          try clear c79b0
                          try clear c79b1
                          try clear c79b2
                          try clear c88
                          try clear c90
                          try clear c90b0
                          try clear c91
                          try clear c91b0
                          try clear c92
                          try clear c92b0
                          try clear c94
                          try clear c94b0
                          try clear c95
                          try clear c96
                          try clear c96b0
                          try clear c96b1
                          try clear c101
                          try clear c101b0
                          try clear c101b1
                          try clear c102
                          try clear c102b0
                          try clear hx383_0
                          try clear hx393_0
                          try clear p2
                          try clear p3
                          try clear p38
                          try clear p383
                          try clear p393
                          try clear p6
                          try clear p64
                          try clear q3
                          try clear q38
                          try clear q383
                          try clear q393
                          obtain ⟨kq, HA, HJ86, HB⟩ := hcut
                          cases kq with
                          | zero => exact absurd HA.out (by simp [laws_FnPairsNearOfAll.j5])
                          | succ kj86 =>
                            have H := HA.out
                            clear HA
                            simp only [laws_FnPairsNearOfAll.j5] at H
                            replace H := Option.bind_eq_some_iff.mp H
                            obtain ⟨⟨t396, t397⟩, A1030, H⟩ := H
                            replace H : ((spec_CountByPairs.f kj86 a2 a3).bind fun bt398 => ((impl_MostSaved.f kj86 a4).bind fun bt400 => ((spec_MostSaved.f kj86 a4).bind fun bt402 => ((impl_PairMovesToClear.f kj86 a4).bind fun bt404 => ((spec_PairMovesToClear.f kj86 a4).bind fun bt406 => (if (t397 != bt398.2) = true then (laws_FnPairsNearOfAll.j6 kj86 a3 a4 t396 t397 bt400.1 bt400.2 bt404.1 true) else (if t396 = bt398.1 then (if (bt400.2 != bt402.2) = true then (laws_FnPairsNearOfAll.j6 kj86 a3 a4 t396 t397 bt400.1 bt400.2 bt404.1 true) else (if bt400.1 = bt402.1 then (if (bt404.2 != bt406.2) = true then (laws_FnPairsNearOfAll.j6 kj86 a3 a4 t396 t397 bt400.1 bt400.2 bt404.1 true) else (if bt404.1 = bt406.1 then (laws_FnPairsNearOfAll.j6 kj86 a3 a4 t396 t397 bt400.1 bt400.2 bt404.1 (bt404.2 != bt400.2)) else (laws_FnPairsNearOfAll.j6 kj86 a3 a4 t396 t397 bt400.1 bt400.2 bt404.1 true))) else (laws_FnPairsNearOfAll.j6 kj86 a3 a4 t396 t397 bt400.1 bt400.2 bt404.1 true))) else (laws_FnPairsNearOfAll.j6 kj86 a3 a4 t396 t397 bt400.1 bt400.2 bt404.1 true)))))))) = some r := H
                            have A103 := Aside0.mk A1030
                            clear A1030
                            replace H := Option.bind_eq_some_iff.mp H
                            obtain ⟨⟨t398, t399⟩, A1040, H⟩ := H
                            replace H : ((impl_MostSaved.f kj86 a4).bind fun bt400 => ((spec_MostSaved.f kj86 a4).bind fun bt402 => ((impl_PairMovesToClear.f kj86 a4).bind fun bt404 => ((spec_PairMovesToClear.f kj86 a4).bind fun bt406 => (if (t397 != t399) = true then (laws_FnPairsNearOfAll.j6 kj86 a3 a4 t396 t397 bt400.1 bt400.2 bt404.1 true) else (if t396 = t398 then (if (bt400.2 != bt402.2) = true then (laws_FnPairsNearOfAll.j6 kj86 a3 a4 t396 t397 bt400.1 bt400.2 bt404.1 true) else (if bt400.1 = bt402.1 then (if (bt404.2 != bt406.2) = true then (laws_FnPairsNearOfAll.j6 kj86 a3 a4 t396 t397 bt400.1 bt400.2 bt404.1 true) else (if bt404.1 = bt406.1 then (laws_FnPairsNearOfAll.j6 kj86 a3 a4 t396 t397 bt400.1 bt400.2 bt404.1 (bt404.2 != bt400.2)) else (laws_FnPairsNearOfAll.j6 kj86 a3 a4 t396 t397 bt400.1 bt400.2 bt404.1 true))) else (laws_FnPairsNearOfAll.j6 kj86 a3 a4 t396 t397 bt400.1 bt400.2 bt404.1 true))) else (laws_FnPairsNearOfAll.j6 kj86 a3 a4 t396 t397 bt400.1 bt400.2 bt404.1 true))))))) = some r := H
                            have A104 := Aside0.mk A1040
                            clear A1040
                            replace H := Option.bind_eq_some_iff.mp H
                            obtain ⟨⟨t400, t401⟩, A1050, H⟩ := H
                            replace H : ((spec_MostSaved.f kj86 a4).bind fun bt402 => ((impl_PairMovesToClear.f kj86 a4).bind fun bt404 => ((spec_PairMovesToClear.f kj86 a4).bind fun bt406 => (if (t397 != t399) = true then (laws_FnPairsNearOfAll.j6 kj86 a3 a4 t396 t397 t400 t401 bt404.1 true) else (if t396 = t398 then (if (t401 != bt402.2) = true then (laws_FnPairsNearOfAll.j6 kj86 a3 a4 t396 t397 t400 t401 bt404.1 true) else (if t400 = bt402.1 then (if (bt404.2 != bt406.2) = true then (laws_FnPairsNearOfAll.j6 kj86 a3 a4 t396 t397 t400 t401 bt404.1 true) else (if bt404.1 = bt406.1 then (laws_FnPairsNearOfAll.j6 kj86 a3 a4 t396 t397 t400 t401 bt404.1 (bt404.2 != t401)) else (laws_FnPairsNearOfAll.j6 kj86 a3 a4 t396 t397 t400 t401 bt404.1 true))) else (laws_FnPairsNearOfAll.j6 kj86 a3 a4 t396 t397 t400 t401 bt404.1 true))) else (laws_FnPairsNearOfAll.j6 kj86 a3 a4 t396 t397 t400 t401 bt404.1 true)))))) = some r := H
                            have A105 := Aside0.mk A1050
                            clear A1050
                            replace H := Option.bind_eq_some_iff.mp H
                            obtain ⟨⟨t402, t403⟩, A1060, H⟩ := H
                            replace H : ((impl_PairMovesToClear.f kj86 a4).bind fun bt404 => ((spec_PairMovesToClear.f kj86 a4).bind fun bt406 => (if (t397 != t399) = true then (laws_FnPairsNearOfAll.j6 kj86 a3 a4 t396 t397 t400 t401 bt404.1 true) else (if t396 = t398 then (if (t401 != t403) = true then (laws_FnPairsNearOfAll.j6 kj86 a3 a4 t396 t397 t400 t401 bt404.1 true) else (if t400 = t402 then (if (bt404.2 != bt406.2) = true then (laws_FnPairsNearOfAll.j6 kj86 a3 a4 t396 t397 t400 t401 bt404.1 true) else (if bt404.1 = bt406.1 then (laws_FnPairsNearOfAll.j6 kj86 a3 a4 t396 t397 t400 t401 bt404.1 (bt404.2 != t401)) else (laws_FnPairsNearOfAll.j6 kj86 a3 a4 t396 t397 t400 t401 bt404.1 true))) else (laws_FnPairsNearOfAll.j6 kj86 a3 a4 t396 t397 t400 t401 bt404.1 true))) else (laws_FnPairsNearOfAll.j6 kj86 a3 a4 t396 t397 t400 t401 bt404.1 true))))) = some r := H
                            have A106 := Aside0.mk A1060
                            clear A1060
                            replace H := Option.bind_eq_some_iff.mp H
                            obtain ⟨⟨t404, t405⟩, A1070, H⟩ := H
                            replace H : ((spec_PairMovesToClear.f kj86 a4).bind fun bt406 => (if (t397 != t399) = true then (laws_FnPairsNearOfAll.j6 kj86 a3 a4 t396 t397 t400 t401 t404 true) else (if t396 = t398 then (if (t401 != t403) = true then (laws_FnPairsNearOfAll.j6 kj86 a3 a4 t396 t397 t400 t401 t404 true) else (if t400 = t402 then (if (t405 != bt406.2) = true then (laws_FnPairsNearOfAll.j6 kj86 a3 a4 t396 t397 t400 t401 t404 true) else (if t404 = bt406.1 then (laws_FnPairsNearOfAll.j6 kj86 a3 a4 t396 t397 t400 t401 t404 (t405 != t401)) else (laws_FnPairsNearOfAll.j6 kj86 a3 a4 t396 t397 t400 t401 t404 true))) else (laws_FnPairsNearOfAll.j6 kj86 a3 a4 t396 t397 t400 t401 t404 true))) else (laws_FnPairsNearOfAll.j6 kj86 a3 a4 t396 t397 t400 t401 t404 true)))) = some r := H
                            have A107 := Aside0.mk A1070
                            clear A1070
                            replace H := Option.bind_eq_some_iff.mp H
                            obtain ⟨⟨t406, t407⟩, A1080, H⟩ := H
                            replace H : (if (t397 != t399) = true then (laws_FnPairsNearOfAll.j6 kj86 a3 a4 t396 t397 t400 t401 t404 true) else (if t396 = t398 then (if (t401 != t403) = true then (laws_FnPairsNearOfAll.j6 kj86 a3 a4 t396 t397 t400 t401 t404 true) else (if t400 = t402 then (if (t405 != t407) = true then (laws_FnPairsNearOfAll.j6 kj86 a3 a4 t396 t397 t400 t401 t404 true) else (if t404 = t406 then (laws_FnPairsNearOfAll.j6 kj86 a3 a4 t396 t397 t400 t401 t404 (t405 != t401)) else (laws_FnPairsNearOfAll.j6 kj86 a3 a4 t396 t397 t400 t401 t404 true))) else (laws_FnPairsNearOfAll.j6 kj86 a3 a4 t396 t397 t400 t401 t404 true))) else (laws_FnPairsNearOfAll.j6 kj86 a3 a4 t396 t397 t400 t401 t404 true))) = some r := H
                            have A108 := Aside0.mk A1080
                            clear A1080
                            have HC109 := Aside0.mk H
                            clear H
                            go_upto_region 42 with (first | ((with_reducible refine gate_callee (f := 12) rfl ?_); refine goesL_ (some 223) rfl rfl Tryd.func12 (by kernel_rfl) rfl #[.int .i64 a2, .int .i64 a3] rfl (by (try simp only [List.map_toArray, List.map_cons, List.map_nil]); first | done | rfl | (simp only [List.length_drop, List.length_take]; rfl)) ?_; (with_reducible refine (impl_CountByPairs.calls kj86 a2 a3 t396 t397 _ A103.out).mono ?_); rintro e w110 ⟨rfl, hb⟩; refine ⟨_, rfl, ?_⟩; have n0_ := Aside0.mk (below_step (by repeat (first | (with_reducible first | exact HB.out | apply below_alloc | apply pw_below_drewN | apply below_drew1) | exact HB.out)) hb); clear HB; have HB := n0_; clear n0_; (try clear hb); (try clear hb2); (try clear hk); (try clear hi)) | ((with_reducible refine gate_callee (f := 13) rfl ?_); refine goesL_ (some 229) rfl rfl Tryd.func13 (by kernel_rfl) rfl #[.int .i64 a2, .int .i64 a3] rfl (by (try simp only [List.map_toArray, List.map_cons, List.map_nil]); first | done | rfl | (simp only [List.length_drop, List.length_take]; rfl)) ?_; (with_reducible refine (spec_CountByPairs.calls kj86 a2 a3 t398 t399 _ A104.out).mono ?_); rintro e w111 ⟨rfl, hb⟩; refine ⟨_, rfl, ?_⟩; have n0_ := Aside0.mk (below_step (by repeat (first | (with_reducible first | exact HB.out | apply below_alloc | apply pw_below_drewN | apply below_drew1) | exact HB.out)) hb); clear HB; have HB := n0_; clear n0_; (try clear hb); (try clear hb2); (try clear hk); (try clear hi)) | ((with_reducible refine gate_callee (f := 14) rfl ?_); refine goesL_ (some 234) rfl rfl Tryd.func14 (by kernel_rfl) rfl #[.int .i64 a4] rfl (by (try simp only [List.map_toArray, List.map_cons, List.map_nil]); first | done | rfl | (simp only [List.length_drop, List.length_take]; rfl)) ?_; (with_reducible refine (impl_MostSaved.calls kj86 a4 t400 t401 _ A105.out).mono ?_); rintro e w112 ⟨rfl, hb⟩; refine ⟨_, rfl, ?_⟩; have n0_ := Aside0.mk (below_step (by repeat (first | (with_reducible first | exact HB.out | apply below_alloc | apply pw_below_drewN | apply below_drew1) | exact HB.out)) hb); clear HB; have HB := n0_; clear n0_; (try clear hb); (try clear hb2); (try clear hk); (try clear hi)) | ((with_reducible refine gate_callee (f := 15) rfl ?_); refine goesL_ (some 239) rfl rfl Tryd.func15 (by kernel_rfl) rfl #[.int .i64 a4] rfl (by (try simp only [List.map_toArray, List.map_cons, List.map_nil]); first | done | rfl | (simp only [List.length_drop, List.length_take]; rfl)) ?_; (with_reducible refine (spec_MostSaved.calls kj86 a4 t402 t403 _ A106.out).mono ?_); rintro e w113 ⟨rfl, hb⟩; refine ⟨_, rfl, ?_⟩; have n0_ := Aside0.mk (below_step (by repeat (first | (with_reducible first | exact HB.out | apply below_alloc | apply pw_below_drewN | apply below_drew1) | exact HB.out)) hb); clear HB; have HB := n0_; clear n0_; (try clear hb); (try clear hb2); (try clear hk); (try clear hi)) | ((with_reducible refine gate_callee (f := 16) rfl ?_); refine goesL_ (some 244) rfl rfl Tryd.func16 (by kernel_rfl) rfl #[.int .i64 a4] rfl (by (try simp only [List.map_toArray, List.map_cons, List.map_nil]); first | done | rfl | (simp only [List.length_drop, List.length_take]; rfl)) ?_; (with_reducible refine (impl_PairMovesToClear.calls kj86 a4 t404 t405 _ A107.out).mono ?_); rintro e w114 ⟨rfl, hb⟩; refine ⟨_, rfl, ?_⟩; have n0_ := Aside0.mk (below_step (by repeat (first | (with_reducible first | exact HB.out | apply below_alloc | apply pw_below_drewN | apply below_drew1) | exact HB.out)) hb); clear HB; have HB := n0_; clear n0_; (try clear hb); (try clear hb2); (try clear hk); (try clear hi)) | ((with_reducible refine gate_callee (f := 17) rfl ?_); refine goesL_ (some 249) rfl rfl Tryd.func17 (by kernel_rfl) rfl #[.int .i64 a4] rfl (by (try simp only [List.map_toArray, List.map_cons, List.map_nil]); first | done | rfl | (simp only [List.length_drop, List.length_take]; rfl)) ?_; (with_reducible refine (spec_PairMovesToClear.calls kj86 a4 t406 t407 _ A108.out).mono ?_); rintro e w115 ⟨rfl, hb⟩; refine ⟨_, rfl, ?_⟩; have n0_ := Aside0.mk (below_step (by repeat (first | (with_reducible first | exact HB.out | apply below_alloc | apply pw_below_drewN | apply below_drew1) | exact HB.out)) hb); clear HB; have HB := n0_; clear n0_; (try clear hb); (try clear hb2); (try clear hk); (try clear hi)))
                            (try simp only [Act.put, List.setIfInBounds_toArray, List.set_cons_zero, List.set_cons_succ])
                            go_cut [284] (fun v284 wc => ∃ (kq : Nat) (x284_108 : Bool), v284 = .bool x284_108 ∧ Aside0 (laws_FnPairsNearOfAll.j6 kq a3 a4 t396 t397 t400 t401 t404 x284_108 = some r) ∧ Aside0 (kq ≤ kj86) ∧ Aside0 (Below w.heap.size w wc))
                            case first =>
                              as_aux_lemma =>
                                have H := HC109.out
                                clear HC109
                                by_cases c116 : (t397 != t399) = true
                                · rw [if_pos c116] at H
                                  have c116b0 : (t397 != t399) = true := c116
                                  (try (have c116b1 : decide (t397 = t399) = false := by simpa using c116))
                                  (try (have c116b2 : (t397 == t399) = false := by simpa using c116))
                                  (try (have c116b3 : ¬ (t397 = t399) := by simpa using c116))
                                  clear c116
                                  (first | rw [c116b0] | (simp only [i64_w, i32_w]; rw [c116b0]) | skip)
                                  have H' := Aside0.mk H
                                  clear H
                                  go_wp2
                                  go_meet
                                  case rel => exact ⟨_, (true), (by first | rfl | (simp; done) | (simp [*]; done)), H', ⟨by have := HJ10.out; have := HJ44.out; have := HJ86.out; first | omega | exact Nat.le_refl _⟩, ⟨by repeat (first | (with_reducible first | exact HB.out | apply below_alloc | apply pw_below_drewN | apply below_drew1) | exact HB.out)⟩⟩
                                · as_aux_lemma =>
                                    rw [if_neg c116] at H
                                    have c116b0 : (t397 != t399) = false := by simpa using c116
                                    (try (have c116b1 : decide (t397 = t399) = true := by simpa using c116))
                                    (try (have c116b2 : (t397 == t399) = true := by simpa using c116))
                                    clear c116
                                    (first | rw [c116b0] | (simp only [i64_w, i32_w]; rw [c116b0]) | skip)
                                    by_cases c117 : t396 = t398
                                    · as_aux_lemma =>
                                        rw [if_pos c117] at H
                                        have c117b0 : (t396 == t398) = true := beq_iff_eq.mpr c117
                                        have c117b1 : (t396 != t398) = false := bne_eq_false_iff_eq.mpr c117
                                        clear c117
                                        by_cases c118 : (t401 != t403) = true
                                        · rw [if_pos c118] at H
                                          have c118b0 : (t401 != t403) = true := c118
                                          (try (have c118b1 : decide (t401 = t403) = false := by simpa using c118))
                                          (try (have c118b2 : (t401 == t403) = false := by simpa using c118))
                                          (try (have c118b3 : ¬ (t401 = t403) := by simpa using c118))
                                          clear c118
                                          have H' := Aside0.mk H
                                          clear H
                                          go_wp2
                                          go_meet
                                          case rel => exact ⟨_, (true), (by first | rfl | (simp; done) | (simp [*]; done)), H', ⟨by have := HJ10.out; have := HJ44.out; have := HJ86.out; first | omega | exact Nat.le_refl _⟩, ⟨by repeat (first | (with_reducible first | exact HB.out | apply below_alloc | apply pw_below_drewN | apply below_drew1) | exact HB.out)⟩⟩
                                        · rw [if_neg c118] at H
                                          have c118b0 : (t401 != t403) = false := by simpa using c118
                                          (try (have c118b1 : decide (t401 = t403) = true := by simpa using c118))
                                          (try (have c118b2 : (t401 == t403) = true := by simpa using c118))
                                          clear c118
                                          by_cases c119 : t400 = t402
                                          · rw [if_pos c119] at H
                                            have c119b0 : (t400 == t402) = true := beq_iff_eq.mpr c119
                                            have c119b1 : (t400 != t402) = false := bne_eq_false_iff_eq.mpr c119
                                            clear c119
                                            by_cases c120 : (t405 != t407) = true
                                            · rw [if_pos c120] at H
                                              have c120b0 : (t405 != t407) = true := c120
                                              (try (have c120b1 : decide (t405 = t407) = false := by simpa using c120))
                                              (try (have c120b2 : (t405 == t407) = false := by simpa using c120))
                                              (try (have c120b3 : ¬ (t405 = t407) := by simpa using c120))
                                              clear c120
                                              have H' := Aside0.mk H
                                              clear H
                                              go_wp2
                                              go_meet
                                              case rel => exact ⟨_, (true), (by first | rfl | (simp; done) | (simp [*]; done)), H', ⟨by have := HJ10.out; have := HJ44.out; have := HJ86.out; first | omega | exact Nat.le_refl _⟩, ⟨by repeat (first | (with_reducible first | exact HB.out | apply below_alloc | apply pw_below_drewN | apply below_drew1) | exact HB.out)⟩⟩
                                            · rw [if_neg c120] at H
                                              have c120b0 : (t405 != t407) = false := by simpa using c120
                                              (try (have c120b1 : decide (t405 = t407) = true := by simpa using c120))
                                              (try (have c120b2 : (t405 == t407) = true := by simpa using c120))
                                              clear c120
                                              by_cases c121 : t404 = t406
                                              · rw [if_pos c121] at H
                                                have c121b0 : (t404 == t406) = true := beq_iff_eq.mpr c121
                                                have c121b1 : (t404 != t406) = false := bne_eq_false_iff_eq.mpr c121
                                                clear c121
                                                have H' := Aside0.mk H
                                                clear H
                                                go_wp2
                                                go_meet
                                                case rel => exact ⟨_, ((t405 != t401)), (by first | rfl | (simp; done) | (simp [*]; done)), H', ⟨by have := HJ10.out; have := HJ44.out; have := HJ86.out; first | omega | exact Nat.le_refl _⟩, ⟨by repeat (first | (with_reducible first | exact HB.out | apply below_alloc | apply pw_below_drewN | apply below_drew1) | exact HB.out)⟩⟩
                                              · rw [if_neg c121] at H
                                                have c121b0 : (t404 == t406) = false := beq_eq_false_iff_ne.mpr c121
                                                have c121b1 : (t404 != t406) = true := bne_iff_ne.mpr c121
                                                have H' := Aside0.mk H
                                                clear H
                                                go_wp2
                                                go_meet
                                                case rel => exact ⟨_, (true), (by first | rfl | (simp; done) | (simp [*]; done)), H', ⟨by have := HJ10.out; have := HJ44.out; have := HJ86.out; first | omega | exact Nat.le_refl _⟩, ⟨by repeat (first | (with_reducible first | exact HB.out | apply below_alloc | apply pw_below_drewN | apply below_drew1) | exact HB.out)⟩⟩
                                          · rw [if_neg c119] at H
                                            have c119b0 : (t400 == t402) = false := beq_eq_false_iff_ne.mpr c119
                                            have c119b1 : (t400 != t402) = true := bne_iff_ne.mpr c119
                                            have H' := Aside0.mk H
                                            clear H
                                            go_wp2
                                            go_meet
                                            case rel => exact ⟨_, (true), (by first | rfl | (simp; done) | (simp [*]; done)), H', ⟨by have := HJ10.out; have := HJ44.out; have := HJ86.out; first | omega | exact Nat.le_refl _⟩, ⟨by repeat (first | (with_reducible first | exact HB.out | apply below_alloc | apply pw_below_drewN | apply below_drew1) | exact HB.out)⟩⟩
                                    · rw [if_neg c117] at H
                                      have c117b0 : (t396 == t398) = false := beq_eq_false_iff_ne.mpr c117
                                      have c117b1 : (t396 != t398) = true := bne_iff_ne.mpr c117
                                      have H' := Aside0.mk H
                                      clear H
                                      go_wp2
                                      go_meet
                                      case rel => exact ⟨_, (true), (by first | rfl | (simp; done) | (simp [*]; done)), H', ⟨by have := HJ10.out; have := HJ44.out; have := HJ86.out; first | omega | exact Nat.le_refl _⟩, ⟨by repeat (first | (with_reducible first | exact HB.out | apply below_alloc | apply pw_below_drewN | apply below_drew1) | exact HB.out)⟩⟩
                            case rest =>
                              as_aux_lemma =>
                                clear HC109
                                try clear c1
                                try clear c2
                                try clear p2
                                try clear c3
                                try clear p3
                                try clear q3
                                try clear hx3
                                try clear c4
                                try clear c5
                                try clear c6
                                try clear c6b0
                                try clear c6b1
                                try clear p6
                                try clear c7
                                try clear c8
                                try clear c9
                                try clear c10
                                try clear c11
                                try clear c12
                                try clear c13
                                try clear c14
                                try clear c15
                                try clear c16
                                try clear c16b0
                                try clear c16b1
                                try clear c16b2
                                try clear c17
                                try clear c18
                                try clear c19
                                try clear c19b0
                                try clear c19b1
                                try clear c19b2
                                try clear c23
                                try clear c24
                                try clear c24b0
                                try clear c24b1
                                try clear c25
                                try clear p38
                                try clear q38
                                try clear hx38
                                try clear p39
                                try clear q39
                                try clear hx39
                                try clear c44
                                try clear c46
                                try clear c48
                                try clear c48b0
                                try clear c49
                                try clear c49b0
                                try clear c50
                                try clear c50b0
                                try clear c53
                                try clear c54
                                try clear c54b0
                                try clear c57
                                try clear c58
                                try clear c58b0
                                try clear p64
                                try clear c69
                                try clear c70
                                try clear c70b0
                                try clear c70b1
                                try clear c71
                                try clear c72
                                try clear c72b0
                                try clear c74
                                try clear c75
                                try clear c75b0
                                try clear c75b1
                                try clear c78
                                try clear c78b0
                                try clear c79
                                try clear c79b0
                                try clear c79b1
                                try clear c79b2
                                try clear c88
                                try clear c90
                                try clear c90b0
                                try clear c91
                                try clear c91b0
                                try clear c92
                                try clear c92b0
                                try clear c94
                                try clear c94b0
                                try clear c95
                                try clear c96
                                try clear c96b0
                                try clear c96b1
                                try clear c101
                                try clear c101b0
                                try clear c101b1
                                try clear c102
                                try clear c102b0
                                try clear c116
                                try clear c116b0
                                try clear c116b1
                                try clear c116b2
                                try clear c117
                                try clear c117b0
                                try clear c117b1
                                try clear c118
                                try clear c118b0
                                try clear c118b1
                                try clear c118b2
                                try clear c119
                                try clear c119b0
                                try clear c119b1
                                try clear c120
                                try clear c120b0
                                try clear c120b1
                                try clear c120b2
                                try clear c121
                                try clear c121b0
                                try clear c121b1
                                try clear hx383_0
                                try clear hx393_0
                                try clear p2
                                try clear p3
                                try clear p38
                                try clear p383
                                try clear p39
                                try clear p393
                                try clear p6
                                try clear p64
                                try clear q3
                                try clear q38
                                try clear q383
                                try clear q39
                                try clear q393
                                obtain ⟨kq, x284_108, rfl, HA, HJ108, HB⟩ := hcut
                                cases kq with
                                | zero => exact absurd HA.out (by simp [laws_FnPairsNearOfAll.j6])
                                | succ kj108 =>
                                  have H := HA.out
                                  clear HA
                                  simp only [laws_FnPairsNearOfAll.j6] at H
                                  by_cases c122 : x284_108 = true
                                  · subst c122
                                    have H1 : (some false) = some r := by rw [if_pos rfl] at H; exact H
                                    clear H
                                    have H := H1
                                    clear H1
                                    obtain rfl := Option.some.inj H
                                    go_wp2
                                    go_ret
                                    exact ⟨by first | rfl | (simp [errW_none, errW_some] <;> rfl) | (simp [*, errW_none, errW_some] <;> rfl), by repeat (first | (with_reducible first | exact HB.out | apply below_alloc | apply pw_below_drewN | apply below_drew1) | exact HB.out)⟩
                                  · as_aux_lemma =>
                                      replace c122 := Bool.eq_false_iff.mpr c122
                                      subst c122
                                      have H1 : (if t397 = true then (if t396 < 0 then (laws_FnPairsNearOfAll.j7 kj108 a4 t400 t401 t404 true) else (if a3 = 0 then (laws_FnPairsNearOfAll.j7 kj108 a4 t400 t401 t404 (t396 != 1)) else (laws_FnPairsNearOfAll.j7 kj108 a4 t400 t401 t404 false))) else (laws_FnPairsNearOfAll.j7 kj108 a4 t400 t401 t404 false)) = some r := by rw [if_neg (show ¬ (false = true) by decide)] at H; exact H
                                      clear H
                                      have H := H1
                                      clear H1
                                      have HC123 := Aside0.mk H
                                      clear H
                                      go_upto_region 44 with (fail)
                                      go_cut [297] (fun v297 wc => ∃ (kq : Nat) (x297_122 : Bool), v297 = .bool x297_122 ∧ Aside0 (laws_FnPairsNearOfAll.j7 kq a4 t400 t401 t404 x297_122 = some r) ∧ Aside0 (kq ≤ kj108) ∧ Aside0 (Below w.heap.size w wc))
                                      case first =>
                                        as_aux_lemma =>
                                          have H := HC123.out
                                          clear HC123
                                          by_cases c124 : t397 = true
                                          · subst c124
                                            have H1 : (if t396 < 0 then (laws_FnPairsNearOfAll.j7 kj108 a4 t400 t401 t404 true) else (if a3 = 0 then (laws_FnPairsNearOfAll.j7 kj108 a4 t400 t401 t404 (t396 != 1)) else (laws_FnPairsNearOfAll.j7 kj108 a4 t400 t401 t404 false))) = some r := by rw [if_pos rfl] at H; exact H
                                            clear H
                                            have H := H1
                                            clear H1
                                            by_cases c125 : t396 < 0
                                            · rw [if_pos c125] at H
                                              have c125b0 : decide (t396 < 0) = true := decide_eq_true c125
                                              clear c125
                                              (first | rw [c125b0] | (simp only [i64_w, i32_w]; rw [c125b0]) | skip)
                                              have H' := Aside0.mk H
                                              clear H
                                              go_wp2
                                              go_meet
                                              case rel => exact ⟨_, (true), (by first | rfl | (simp; done) | (simp [*]; done)), H', ⟨by have := HJ10.out; have := HJ44.out; have := HJ86.out; have := HJ108.out; first | omega | exact Nat.le_refl _⟩, ⟨by repeat (first | (with_reducible first | exact HB.out | apply below_alloc | apply pw_below_drewN | apply below_drew1) | exact HB.out)⟩⟩
                                            · rw [if_neg c125] at H
                                              have c125b0 : decide (t396 < 0) = false := decide_eq_false c125
                                              clear c125
                                              (first | rw [c125b0] | (simp only [i64_w, i32_w]; rw [c125b0]) | skip)
                                              by_cases c126 : a3 = 0
                                              · rw [if_pos c126] at H
                                                have c126b0 : (a3 == 0) = true := beq_iff_eq.mpr c126
                                                have c126b1 : (a3 != 0) = false := bne_eq_false_iff_eq.mpr c126
                                                clear c126
                                                have H' := Aside0.mk H
                                                clear H
                                                go_wp2
                                                go_meet
                                                case rel => exact ⟨_, ((t396 != 1)), (by first | rfl | (simp; done) | (simp [*]; done)), H', ⟨by have := HJ10.out; have := HJ44.out; have := HJ86.out; have := HJ108.out; first | omega | exact Nat.le_refl _⟩, ⟨by repeat (first | (with_reducible first | exact HB.out | apply below_alloc | apply pw_below_drewN | apply below_drew1) | exact HB.out)⟩⟩
                                              · rw [if_neg c126] at H
                                                have c126b0 : (a3 == 0) = false := beq_eq_false_iff_ne.mpr c126
                                                have c126b1 : (a3 != 0) = true := bne_iff_ne.mpr c126
                                                have H' := Aside0.mk H
                                                clear H
                                                go_wp2
                                                go_meet
                                                case rel => exact ⟨_, (false), (by first | rfl | (simp; done) | (simp [*]; done)), H', ⟨by have := HJ10.out; have := HJ44.out; have := HJ86.out; have := HJ108.out; first | omega | exact Nat.le_refl _⟩, ⟨by repeat (first | (with_reducible first | exact HB.out | apply below_alloc | apply pw_below_drewN | apply below_drew1) | exact HB.out)⟩⟩
                                          · replace c124 := Bool.eq_false_iff.mpr c124
                                            subst c124
                                            have H1 : (laws_FnPairsNearOfAll.j7 kj108 a4 t400 t401 t404 false) = some r := by rw [if_neg (show ¬ (false = true) by decide)] at H; exact H
                                            clear H
                                            have H := H1
                                            clear H1
                                            have H' := Aside0.mk H
                                            clear H
                                            go_wp2
                                            go_meet
                                            case rel => exact ⟨_, (false), (by first | rfl | (simp; done) | (simp [*]; done)), H', ⟨by have := HJ10.out; have := HJ44.out; have := HJ86.out; have := HJ108.out; first | omega | exact Nat.le_refl _⟩, ⟨by repeat (first | (with_reducible first | exact HB.out | apply below_alloc | apply pw_below_drewN | apply below_drew1) | exact HB.out)⟩⟩
                                      case rest =>
                                        as_aux_lemma =>
                                          clear HC123
                                          try clear c1
                                          try clear c2
                                          try clear p2
                                          try clear c3
                                          try clear p3
                                          try clear q3
                                          try clear hx3
                                          try clear c4
                                          try clear c5
                                          try clear c6
                                          try clear c6b0
                                          try clear c6b1
                                          try clear p6
                                          try clear c7
                                          try clear c8
                                          try clear c9
                                          try clear c10
                                          try clear c11
                                          try clear c12
                                          try clear c13
                                          try clear c14
                                          try clear c15
                                          try clear c16
                                          try clear c16b0
                                          try clear c16b1
                                          try clear c16b2
                                          try clear c17
                                          try clear c18
                                          try clear c19
                                          try clear c19b0
                                          try clear c19b1
                                          try clear c19b2
                                          try clear c23
                                          try clear c24
                                          try clear c24b0
                                          try clear c24b1
                                          try clear c25
                                          try clear p38
                                          try clear q38
                                          try clear hx38
                                          try clear p39
                                          try clear q39
                                          try clear hx39
                                          try clear c44
                                          try clear c46
                                          try clear c48
                                          try clear c48b0
                                          try clear c49
                                          try clear c49b0
                                          try clear c50
                                          try clear c50b0
                                          try clear c53
                                          try clear c54
                                          try clear c54b0
                                          try clear c57
                                          try clear c58
                                          try clear c58b0
                                          try clear p64
                                          try clear c69
                                          try clear c70
                                          try clear c70b0
                                          try clear c70b1
                                          try clear c71
                                          try clear c72
                                          try clear c72b0
                                          try clear c74
                                          try clear c75
                                          try clear c75b0
                                          try clear c75b1
                                          try clear c78
                                          try clear c78b0
                                          try clear c79
                                          try clear c79b0
                                          try clear c79b1
                                          try clear c79b2
                                          try clear c88
                                          try clear c90
                                          try clear c90b0
                                          try clear c91
                                          try clear c91b0
                                          try clear c92
                                          try clear c92b0
                                          try clear c94
                                          try clear c94b0
                                          try clear c95
                                          try clear c96
                                          try clear c96b0
                                          try clear c96b1
                                          try clear c101
                                          try clear c101b0
                                          try clear c101b1
                                          try clear c102
                                          try clear c102b0
                                          try clear c116
                                          try clear c116b0
                                          try clear c116b1
                                          try clear c116b2
                                          try clear c117
                                          try clear c117b0
                                          try clear c117b1
                                          try clear c118
                                          try clear c118b0
                                          try clear c118b1
                                          try clear c118b2
                                          try clear c119
                                          try clear c119b0
                                          try clear c119b1
                                          try clear c120
                                          try clear c120b0
                                          try clear c120b1
                                          try clear c120b2
                                          try clear c121
                                          try clear c121b0
                                          try clear c121b1
                                          try clear c122
                                          try clear c124
                                          try clear c125
                                          try clear c125b0
                                          try clear c126
                                          try clear c126b0
                                          try clear c126b1
                                          try clear hx383_0
                                          try clear hx393_0
                                          try clear p2
                                          try clear p3
                                          try clear p38
                                          try clear p383
                                          try clear p39
                                          try clear p393
                                          try clear p6
                                          try clear p64
                                          try clear q3
                                          try clear q38
                                          try clear q383
                                          try clear q39
                                          try clear q393
                                          obtain ⟨kq, x297_122, rfl, HA, HJ122, HB⟩ := hcut
                                          cases kq with
                                          | zero => exact absurd HA.out (by simp [laws_FnPairsNearOfAll.j7])
                                          | succ kj122 =>
                                            have H := HA.out
                                            clear HA
                                            simp only [laws_FnPairsNearOfAll.j7] at H
                                            by_cases c127 : x297_122 = true
                                            · subst c127
                                              have H1 : (some false) = some r := by rw [if_pos rfl] at H; exact H
                                              clear H
                                              have H := H1
                                              clear H1
                                              obtain rfl := Option.some.inj H
                                              go_wp2
                                              go_ret
                                              exact ⟨by first | rfl | (simp [errW_none, errW_some] <;> rfl) | (simp [*, errW_none, errW_some] <;> rfl), by repeat (first | (with_reducible first | exact HB.out | apply below_alloc | apply pw_below_drewN | apply below_drew1) | exact HB.out)⟩
                                            · as_aux_lemma =>
                                                replace c127 := Bool.eq_false_iff.mpr c127
                                                subst c127
                                                have H1 : (if t401 = true then ((impl_MovesToClear.f kj122 a4).bind fun bt408 => (if bt408.2 = true then (if t400 < (wrap64 (bt408.1 - t404)) then (laws_FnPairsNearOfAll.j8 kj122 a4 t404 true) else (if t404 > bt408.1 then (laws_FnPairsNearOfAll.j8 kj122 a4 t404 true) else (if t404 < 1 then (laws_FnPairsNearOfAll.j8 kj122 a4 t404 true) else (laws_FnPairsNearOfAll.j8 kj122 a4 t404 (decide (t400 < 1)))))) else (laws_FnPairsNearOfAll.j8 kj122 a4 t404 true))) else (some true)) = some r := by rw [if_neg (show ¬ (false = true) by decide)] at H; exact H
                                                clear H
                                                have H := H1
                                                clear H1
                                                by_cases c128 : t401 = true
                                                · as_aux_lemma =>
                                                    subst c128
                                                    have H1 : ((impl_MovesToClear.f kj122 a4).bind fun bt408 => (if bt408.2 = true then (if t400 < (wrap64 (bt408.1 - t404)) then (laws_FnPairsNearOfAll.j8 kj122 a4 t404 true) else (if t404 > bt408.1 then (laws_FnPairsNearOfAll.j8 kj122 a4 t404 true) else (if t404 < 1 then (laws_FnPairsNearOfAll.j8 kj122 a4 t404 true) else (laws_FnPairsNearOfAll.j8 kj122 a4 t404 (decide (t400 < 1)))))) else (laws_FnPairsNearOfAll.j8 kj122 a4 t404 true))) = some r := by rw [if_pos rfl] at H; exact H
                                                    clear H
                                                    have H := H1
                                                    clear H1
                                                    replace H := Option.bind_eq_some_iff.mp H
                                                    obtain ⟨⟨t408, t409⟩, A1290, H⟩ := H
                                                    replace H : (if t409 = true then (if t400 < (wrap64 (t408 - t404)) then (laws_FnPairsNearOfAll.j8 kj122 a4 t404 true) else (if t404 > t408 then (laws_FnPairsNearOfAll.j8 kj122 a4 t404 true) else (if t404 < 1 then (laws_FnPairsNearOfAll.j8 kj122 a4 t404 true) else (laws_FnPairsNearOfAll.j8 kj122 a4 t404 (decide (t400 < 1)))))) else (laws_FnPairsNearOfAll.j8 kj122 a4 t404 true)) = some r := H
                                                    have A129 := Aside0.mk A1290
                                                    clear A1290
                                                    have HC130 := Aside0.mk H
                                                    clear H
                                                    go_upto_region 48 with (first | ((with_reducible refine gate_callee (f := 18) rfl ?_); refine goesL_ (some 301) rfl rfl Tryd.func18 (by kernel_rfl) rfl #[.int .i64 a4] rfl (by (try simp only [List.map_toArray, List.map_cons, List.map_nil]); first | done | rfl | (simp only [List.length_drop, List.length_take]; rfl)) ?_; (with_reducible refine (impl_MovesToClear.calls kj122 a4 t408 t409 _ A129.out).mono ?_); rintro e w131 ⟨rfl, hb⟩; refine ⟨_, rfl, ?_⟩; have n0_ := Aside0.mk (below_step (by repeat (first | (with_reducible first | exact HB.out | apply below_alloc | apply pw_below_drewN | apply below_drew1) | exact HB.out)) hb); clear HB; have HB := n0_; clear n0_; (try clear hb); (try clear hb2); (try clear hk); (try clear hi)))
                                                    (try simp only [Act.put, List.setIfInBounds_toArray, List.set_cons_zero, List.set_cons_succ])
                                                    go_cut [325] (fun v325 wc => ∃ (kq : Nat) (x325_129 : Bool), v325 = .bool x325_129 ∧ Aside0 (laws_FnPairsNearOfAll.j8 kq a4 t404 x325_129 = some r) ∧ Aside0 (kq ≤ kj122) ∧ Aside0 (Below w.heap.size w wc))
                                                    case first =>
                                                      as_aux_lemma =>
                                                        have H := HC130.out
                                                        clear HC130
                                                        by_cases c132 : t409 = true
                                                        · subst c132
                                                          have H1 : (if t400 < (wrap64 (t408 - t404)) then (laws_FnPairsNearOfAll.j8 kj122 a4 t404 true) else (if t404 > t408 then (laws_FnPairsNearOfAll.j8 kj122 a4 t404 true) else (if t404 < 1 then (laws_FnPairsNearOfAll.j8 kj122 a4 t404 true) else (laws_FnPairsNearOfAll.j8 kj122 a4 t404 (decide (t400 < 1)))))) = some r := by rw [if_pos rfl] at H; exact H
                                                          clear H
                                                          have H := H1
                                                          clear H1
                                                          by_cases c133 : t400 < (wrap64 (t408 - t404))
                                                          · rw [if_pos c133] at H
                                                            have c133b0 : decide (t400 < (wrap64 (t408 - t404))) = true := decide_eq_true c133
                                                            clear c133
                                                            (first | rw [c133b0] | (simp only [i64_w, i32_w]; rw [c133b0]) | skip)
                                                            have H' := Aside0.mk H
                                                            clear H
                                                            go_wp2
                                                            go_meet
                                                            case rel => exact ⟨_, (true), (by first | rfl | (simp; done) | (simp [*]; done)), H', ⟨by have := HJ10.out; have := HJ44.out; have := HJ86.out; have := HJ108.out; have := HJ122.out; first | omega | exact Nat.le_refl _⟩, ⟨by repeat (first | (with_reducible first | exact HB.out | apply below_alloc | apply pw_below_drewN | apply below_drew1) | exact HB.out)⟩⟩
                                                          · rw [if_neg c133] at H
                                                            have c133b0 : decide (t400 < (wrap64 (t408 - t404))) = false := decide_eq_false c133
                                                            clear c133
                                                            (first | rw [c133b0] | (simp only [i64_w, i32_w]; rw [c133b0]) | skip)
                                                            by_cases c134 : t404 > t408
                                                            · rw [if_pos c134] at H
                                                              have c134b0 : decide (t408 < t404) = true := decide_eq_true c134
                                                              clear c134
                                                              have H' := Aside0.mk H
                                                              clear H
                                                              go_wp2
                                                              go_meet
                                                              case rel => exact ⟨_, (true), (by first | rfl | (simp; done) | (simp [*]; done)), H', ⟨by have := HJ10.out; have := HJ44.out; have := HJ86.out; have := HJ108.out; have := HJ122.out; first | omega | exact Nat.le_refl _⟩, ⟨by repeat (first | (with_reducible first | exact HB.out | apply below_alloc | apply pw_below_drewN | apply below_drew1) | exact HB.out)⟩⟩
                                                            · rw [if_neg c134] at H
                                                              have c134b0 : decide (t408 < t404) = false := decide_eq_false c134
                                                              clear c134
                                                              by_cases c135 : t404 < 1
                                                              · rw [if_pos c135] at H
                                                                have c135b0 : decide (t404 < 1) = true := decide_eq_true c135
                                                                clear c135
                                                                have H' := Aside0.mk H
                                                                clear H
                                                                go_wp2
                                                                go_meet
                                                                case rel => exact ⟨_, (true), (by first | rfl | (simp; done) | (simp [*]; done)), H', ⟨by have := HJ10.out; have := HJ44.out; have := HJ86.out; have := HJ108.out; have := HJ122.out; first | omega | exact Nat.le_refl _⟩, ⟨by repeat (first | (with_reducible first | exact HB.out | apply below_alloc | apply pw_below_drewN | apply below_drew1) | exact HB.out)⟩⟩
                                                              · rw [if_neg c135] at H
                                                                have c135b0 : decide (t404 < 1) = false := decide_eq_false c135
                                                                clear c135
                                                                have H' := Aside0.mk H
                                                                clear H
                                                                go_wp2
                                                                go_meet
                                                                case rel => exact ⟨_, (decide (t400 < 1)), (by first | rfl | (simp; done) | (simp [*]; done)), H', ⟨by have := HJ10.out; have := HJ44.out; have := HJ86.out; have := HJ108.out; have := HJ122.out; first | omega | exact Nat.le_refl _⟩, ⟨by repeat (first | (with_reducible first | exact HB.out | apply below_alloc | apply pw_below_drewN | apply below_drew1) | exact HB.out)⟩⟩
                                                        · replace c132 := Bool.eq_false_iff.mpr c132
                                                          subst c132
                                                          have H1 : (laws_FnPairsNearOfAll.j8 kj122 a4 t404 true) = some r := by rw [if_neg (show ¬ (false = true) by decide)] at H; exact H
                                                          clear H
                                                          have H := H1
                                                          clear H1
                                                          have H' := Aside0.mk H
                                                          clear H
                                                          go_wp2
                                                          go_meet
                                                          case rel => exact ⟨_, (true), (by first | rfl | (simp; done) | (simp [*]; done)), H', ⟨by have := HJ10.out; have := HJ44.out; have := HJ86.out; have := HJ108.out; have := HJ122.out; first | omega | exact Nat.le_refl _⟩, ⟨by repeat (first | (with_reducible first | exact HB.out | apply below_alloc | apply pw_below_drewN | apply below_drew1) | exact HB.out)⟩⟩
                                                    case rest =>
                                                      as_aux_lemma =>
                                                        clear HC130
                                                        try clear c1
                                                        try clear c2
                                                        try clear p2
                                                        try clear c3
                                                        try clear p3
                                                        try clear q3
                                                        try clear hx3
                                                        try clear c4
                                                        try clear c5
                                                        try clear c6
                                                        try clear c6b0
                                                        try clear c6b1
                                                        try clear p6
                                                        try clear c7
                                                        try clear c8
                                                        try clear c9
                                                        try clear c10
                                                        try clear c11
                                                        try clear c12
                                                        try clear c13
                                                        try clear c14
                                                        try clear c15
                                                        try clear c16
                                                        try clear c16b0
                                                        try clear c16b1
                                                        try clear c16b2
                                                        try clear c17
                                                        try clear c18
                                                        try clear c19
                                                        try clear c19b0
                                                        try clear c19b1
                                                        try clear c19b2
                                                        try clear c23
                                                        try clear c24
                                                        try clear c24b0
                                                        try clear c24b1
                                                        try clear c25
                                                        try clear p38
                                                        try clear q38
                                                        try clear hx38
                                                        try clear p39
                                                        try clear q39
                                                        try clear hx39
                                                        try clear c44
                                                        try clear c46
                                                        try clear c48
                                                        try clear c48b0
                                                        try clear c49
                                                        try clear c49b0
                                                        try clear c50
                                                        try clear c50b0
                                                        try clear c53
                                                        try clear c54
                                                        try clear c54b0
                                                        try clear c57
                                                        try clear c58
                                                        try clear c58b0
                                                        try clear p64
                                                        try clear c69
                                                        try clear c70
                                                        try clear c70b0
                                                        try clear c70b1
                                                        try clear c71
                                                        try clear c72
                                                        try clear c72b0
                                                        try clear c74
                                                        try clear c75
                                                        try clear c75b0
                                                        try clear c75b1
                                                        try clear c78
                                                        try clear c78b0
                                                        try clear c79
                                                        try clear c79b0
                                                        try clear c79b1
                                                        try clear c79b2
                                                        try clear c88
                                                        try clear c90
                                                        try clear c90b0
                                                        try clear c91
                                                        try clear c91b0
                                                        try clear c92
                                                        try clear c92b0
                                                        try clear c94
                                                        try clear c94b0
                                                        try clear c95
                                                        try clear c96
                                                        try clear c96b0
                                                        try clear c96b1
                                                        try clear c101
                                                        try clear c101b0
                                                        try clear c101b1
                                                        try clear c102
                                                        try clear c102b0
                                                        try clear c116
                                                        try clear c116b0
                                                        try clear c116b1
                                                        try clear c116b2
                                                        try clear c117
                                                        try clear c117b0
                                                        try clear c117b1
                                                        try clear c118
                                                        try clear c118b0
                                                        try clear c118b1
                                                        try clear c118b2
                                                        try clear c119
                                                        try clear c119b0
                                                        try clear c119b1
                                                        try clear c120
                                                        try clear c120b0
                                                        try clear c120b1
                                                        try clear c120b2
                                                        try clear c121
                                                        try clear c121b0
                                                        try clear c121b1
                                                        try clear c122
                                                        try clear c124
                                                        try clear c125
                                                        try clear c125b0
                                                        try clear c126
                                                        try clear c126b0
                                                        try clear c126b1
                                                        try clear c127
                                                        try clear c128
                                                        try clear c132
                                                        try clear c133
                                                        try clear c133b0
                                                        try clear c134
                                                        try clear c134b0
                                                        try clear c135
                                                        try clear c135b0
                                                        try clear hx383_0
                                                        try clear hx393_0
                                                        try clear p2
                                                        try clear p3
                                                        try clear p38
                                                        try clear p383
                                                        try clear p39
                                                        try clear p393
                                                        try clear p6
                                                        try clear p64
                                                        try clear q3
                                                        try clear q38
                                                        try clear q383
                                                        try clear q39
                                                        try clear q393
                                                        obtain ⟨kq, x325_129, rfl, HA, HJ129, HB⟩ := hcut
                                                        cases kq with
                                                        | zero => exact absurd HA.out (by simp [laws_FnPairsNearOfAll.j8])
                                                        | succ kj129 =>
                                                          have H := HA.out
                                                          clear HA
                                                          simp only [laws_FnPairsNearOfAll.j8] at H
                                                          by_cases c136 : x325_129 = true
                                                          · subst c136
                                                            have H1 : (some false) = some r := by rw [if_pos rfl] at H; exact H
                                                            clear H
                                                            have H := H1
                                                            clear H1
                                                            obtain rfl := Option.some.inj H
                                                            go_wp2
                                                            go_ret
                                                            exact ⟨by first | rfl | (simp [errW_none, errW_some] <;> rfl) | (simp [*, errW_none, errW_some] <;> rfl), by repeat (first | (with_reducible first | exact HB.out | apply below_alloc | apply pw_below_drewN | apply below_drew1) | exact HB.out)⟩
                                                          · replace c136 := Bool.eq_false_iff.mpr c136
                                                            subst c136
                                                            have H1 : (if 0 ≤ (wrap64 (a4 - 1)) then (if (Int.tmod a4 2) = 0 then (some (t404 == (wrap64 ((shl .i64 1 (wrap64 (a4 - 1))) - 1)))) else (some (t404 == (shl .i64 1 (wrap64 (a4 - 1)))))) else (none)) = some r := by rw [if_neg (show ¬ (false = true) by decide)] at H; exact H
                                                            clear H
                                                            have H := H1
                                                            clear H1
                                                            obtain ⟨ji137, hji137⟩ : ∃ j_ : Int, (wrap64 (a4 - 1)) = j_ := ⟨_, rfl⟩
                                                            replace H : (if 0 ≤ (ji137) then (if (Int.tmod a4 2) = 0 then (some (t404 == (wrap64 ((shl .i64 1 (ji137)) - 1)))) else (some (t404 == (shl .i64 1 (ji137))))) else (none)) = some r := by first | (rw [hji137] at H; exact H) | (simp only [hji137] at H ⊢; exact H)
                                                            have hji137w : (IntKind.i64.wrap (a4 - 1)) = ji137 := (i64_w _).trans hji137
                                                            by_cases c138 : 0 ≤ (ji137)
                                                            · rw [if_pos c138] at H
                                                              have c138b0 := eq_true c138
                                                              have c138b1 : decide (0 ≤ (ji137)) = true := decide_eq_true c138
                                                              clear c138
                                                              obtain ⟨ji139, hji139⟩ : ∃ j_ : Int, (shl .i64 1 (ji137)) = j_ := ⟨_, rfl⟩
                                                              replace H : (if (Int.tmod a4 2) = 0 then (some (t404 == (wrap64 ((ji139) - 1)))) else (some (t404 == (ji139)))) = some r := by first | (rw [hji139] at H; exact H) | (simp only [hji139] at H ⊢; exact H)
                                                              have hji139_ : (IntKind.i64.wrap (1 * 2 ^ min (ji137).toNat 64)) = ji139 := hji139
                                                              have hji139z : (ji137) ≤ 64 → (IntKind.i64.wrap (1 * 2 ^ (ji137).toNat)) = ji139 := shl_small hji139
                                                              have hji139u : (IntKind.i64.wrap (2 ^ min (ji137).toNat 64)) = ji139 := by have h_ := hji139_; rw [Int.one_mul] at h_; exact h_
                                                              have hji139v : (ji137) ≤ 64 → (IntKind.i64.wrap (2 ^ (ji137).toNat)) = ji139 := fun hle_ => by have h_ := hji139z hle_; rw [Int.one_mul] at h_; exact h_
                                                              have hji139y : (wrap64 (1 * 2 ^ min (ji137).toNat 64)) = ji139 := (i64_w _).symm.trans hji139_
                                                              have hji139x : (ji137) ≤ 64 → (wrap64 (1 * 2 ^ (ji137).toNat)) = ji139 := fun h_ => (i64_w _).symm.trans (hji139z h_)
                                                              by_cases c140 : (Int.tmod a4 2) = 0
                                                              · rw [if_pos c140] at H
                                                                have c140b0 : ((Int.tmod a4 2) == 0) = true := beq_iff_eq.mpr c140
                                                                have c140b1 : ((Int.tmod a4 2) != 0) = false := bne_eq_false_iff_eq.mpr c140
                                                                clear c140
                                                                obtain rfl := Option.some.inj H
                                                                go_wp2
                                                                go_ret
                                                                exact ⟨by first | rfl | (simp [errW_none, errW_some] <;> rfl) | (simp only [← hji137, ← hji139]; first | rfl | (simp [errW_none, errW_some] <;> rfl)) | (simp [*, errW_none, errW_some] <;> rfl), by repeat (first | (with_reducible first | exact HB.out | apply below_alloc | apply pw_below_drewN | apply below_drew1) | exact HB.out)⟩
                                                              · rw [if_neg c140] at H
                                                                have c140b0 : ((Int.tmod a4 2) == 0) = false := beq_eq_false_iff_ne.mpr c140
                                                                have c140b1 : ((Int.tmod a4 2) != 0) = true := bne_iff_ne.mpr c140
                                                                obtain rfl := Option.some.inj H
                                                                go_wp2
                                                                go_ret
                                                                exact ⟨by first | rfl | (simp [errW_none, errW_some] <;> rfl) | (simp only [← hji137, ← hji139]; first | rfl | (simp [errW_none, errW_some] <;> rfl)) | (simp [*, errW_none, errW_some] <;> rfl), by repeat (first | (with_reducible first | exact HB.out | apply below_alloc | apply pw_below_drewN | apply below_drew1) | exact HB.out)⟩
                                                            · rw [if_neg c138] at H
                                                              exact absurd H (by simp)
                                                · replace c128 := Bool.eq_false_iff.mpr c128
                                                  subst c128
                                                  have H1 : (some true) = some r := by rw [if_neg (show ¬ (false = true) by decide)] at H; exact H
                                                  clear H
                                                  have H := H1
                                                  clear H1
                                                  obtain rfl := Option.some.inj H
                                                  go_wp2
                                                  go_ret
                                                  exact ⟨by first | rfl | (simp [errW_none, errW_some] <;> rfl) | (simp [*, errW_none, errW_some] <;> rfl), by repeat (first | (with_reducible first | exact HB.out | apply below_alloc | apply pw_below_drewN | apply below_drew1) | exact HB.out)⟩

/-- THE ONE PURE STATEMENT of laws_FnPairsNearOfAll: yours. -/
def laws_FnPairsNearOfAll.Pure : Prop := ∀ (a0 : ByteArray) (a1 : Int) (a2 : Int) (a3 : Int) (a4 : Int), a0.size ≤ 140737488351232 → (Lit.int .i64 a1).wf = true → (Lit.int .i64 a2).wf = true → (Lit.int .i64 a3).wf = true → (Lit.int .i64 a4).wf = true → ∃ k, laws_FnPairsNearOfAll.f k a0 a1 a2 a3 a4 = some true
theorem laws_FnPairsNearOfAll.walk (P : laws_FnPairsNearOfAll.Pure) (a0 : ByteArray) (a1 : Int) (a2 : Int) (a3 : Int) (a4 : Int) (w : World) (w0 : a0.size ≤ 140737488351232) (w1 : (Lit.int .i64 a1).wf = true) (w2 : (Lit.int .i64 a2).wf = true) (w3 : (Lit.int .i64 a3).wf = true) (w4 : (Lit.int .i64 a4).wf = true) :
    Calls Tryd.prog 3 #[.string a0, .int .i64 a1, .int .i64 a2, .int .i64 a3, .int .i64 a4] w fun e w' => e = .returned (.bool true) ∧ Below w.heap.size w w' := by
  obtain ⟨k, h⟩ := P a0 a1 a2 a3 a4 w0 w1 w2 w3 w4
  refine (laws_FnPairsNearOfAll.calls k a0 a1 a2 a3 a4 true w h).mono ?_
  rintro e w' ⟨rfl, hd⟩
  exact ⟨rfl, hd⟩

end Go.Proofs.YtfejpncdjlmamaaDoor.PN
