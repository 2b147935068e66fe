-- written by a program of this session's (wip/tools), over the kit's print
import Derived.Test.YtdgpkdgpmidaoaaDoorPKx0
import Derived.Test.YtdgpkdgpmidaoaaDoorPKx1
import Derived.Test.YtdgpkdgpmidaoaaDoorPKx2
import Derived.Test.YtdgpkdgpmidaoaaDoorPKx3
import Derived.Test.YtdgpkdgpmidaoaaDoorPKx4
import Derived.Test.YtdgpkdgpmidaoaaDoorPKx8
import Derived.Test.YtdgpkdgpmidaoaaDoorPKx9
import Derived.Test.YtdgpkdgpmidaoaaDoorPKx10
-- squeezed
-- squeezed twice
namespace Go.Proofs.YtdgpkdgpmidaoaaDoor.PK
open Go.RowKit Go.Proofs.YtdgpkdgpmidaoaaDoorW.PrintWords Go.Proofs.YtdgpkdgpmidaoaaDoorW.PrintLast Go.Proofs.YtdgpkdgpmidaoaaDoorW.PrintMore
attribute [local go_sem] max2_int min2_int max_two min_two max_three min_three max_four min_four   -- for this text's walks alone
set_option linter.unusedVariables false
set_option linter.unusedSimpArgs false

/-! ### laws_FnKeysLead: function 3 -/
mutual
def laws_FnKeysLead.j0 : Nat → List Int → List ByteArray → ByteArray → ByteArray → List Int → Bool → Int → Bool → Option (Bool)
 | 0, _, _, _, _, _, _, _, _ => none
 | k + 1, x1, x5, x6, x7, x8, x9, x12, x167 => if x167 = true then (none) else (if x9 = true then (laws_FnKeysLead.l0 k x1 x5 x6 x7 x8 x12 x6 x8 (x8.length : Int) 0) else (laws_FnKeysLead.j2 k x1))
def laws_FnKeysLead.j2 : Nat → List Int → Option (Bool)
 | 0, _ => none
 | k + 1, x1 => (spec_DrawKeyedMoves.f k x1).bind fun bt413 => ((impl_KeyedMoves.f k bt413.1 bt413.2).bind fun bt417 => ((spec_KeyedMoves.f k bt413.1 bt413.2).bind fun bt421 => ((impl_CountReachedBy.f k bt413.1 bt413.2).bind fun bt425 => ((spec_CountReachedBy.f k bt413.1 bt413.2).bind fun bt427 => ((impl_FarthestByKeys.f k bt413.1 bt413.2).bind fun bt429 => ((spec_FarthestByKeys.f k bt413.1 bt413.2).bind fun bt432 => ((spec_DrawMoveKeyed.f k x1).bind fun bt435 => ((impl_MoveKeyed.f k bt435.1 bt435.2.1 bt435.2.2).bind fun bt440 => ((spec_MoveKeyed.f k bt435.1 bt435.2.1 bt435.2.2).bind fun bt442 => ((impl_FitsKey.f k bt435.1 bt435.2.1 bt435.2.2).bind fun bt444 => ((spec_FitsKey.f k bt435.1 bt435.2.1 bt435.2.2).bind fun bt446 => (if (bt417.2 != bt421.2) = true then (none) else ((laws_ySame.f k bt417.1 bt421.1).bind fun t448 => (if t448 = true then (if (bt425.2 != bt427.2) = true then (none) else (if bt425.1 = bt427.1 then (if (bt429.2.2 != bt432.2.2) = true then (none) else (if bt429.1.toList = bt432.1.toList then (if bt429.2.1 = bt432.2.1 then (if (bt425.2 != bt417.2) = true then (none) else (if (bt429.2.2 != bt417.2) = true then (none) else (if (bt440.2 != bt442.2) = true then (none) else (if bt440.1.toList = bt442.1.toList then (if (bt444.2 != bt446.2) = true then (none) else (if (bt444.1 != bt446.1) = true then (none) else (if bt444.2 = true then (if (bt440.2 != bt444.1) = true then (none) else ((impl_AreKeys.f k bt413.1).bind fun t449 => ((spec_AreKeys.f k bt413.1).bind fun t450 => (if (t449 != t450) = true then (none) else (if bt417.2 = true then ((impl_AreKeys.f k bt413.1).bind fun t451 => (laws_FnKeysLead.j3 k bt413.1 bt413.2 bt417.1 bt417.2 bt425.1 bt429.1 bt429.2.1 bt435.1 bt435.2.1 bt435.2.2 bt440.1 bt440.2 (!t451))) else (laws_FnKeysLead.j3 k bt413.1 bt413.2 bt417.1 bt417.2 bt425.1 bt429.1 bt429.2.1 bt435.1 bt435.2.1 bt435.2.2 bt440.1 bt440.2 false)))))) else (if (bt440.2 != false) = true then (none) else ((impl_AreKeys.f k bt413.1).bind fun t452 => ((spec_AreKeys.f k bt413.1).bind fun t453 => (if (t452 != t453) = true then (none) else (if bt417.2 = true then ((impl_AreKeys.f k bt413.1).bind fun t454 => (laws_FnKeysLead.j3 k bt413.1 bt413.2 bt417.1 bt417.2 bt425.1 bt429.1 bt429.2.1 bt435.1 bt435.2.1 bt435.2.2 bt440.1 bt440.2 (!t454))) else (laws_FnKeysLead.j3 k bt413.1 bt413.2 bt417.1 bt417.2 bt425.1 bt429.1 bt429.2.1 bt435.1 bt435.2.1 bt435.2.2 bt440.1 bt440.2 false))))))))) else (none))))) else (none)) else (none))) else (none))) else (none)))))))))))))))
def laws_FnKeysLead.j3 : Nat → List ByteArray → ByteArray → List Int → Bool → Int → ByteArray → Int → List ByteArray → ByteArray → Int → ByteArray → Bool → Bool → Option (Bool)
 | 0, _, _, _, _, _, _, _, _, _, _, _, _, _ => none
 | k + 1, x33, x34, x35, x36, x39, x43, x44, x49, x50, x51, x52, x53, x420 => if x420 = true then (none) else (if x36 = true then ((impl_FewestKeyed.f k x33 x34 x43).bind fun bt455 => (if bt455.2 = true then (if bt455.1 = x44 then (if ((x39 == 1) != ((x35.length : Int) == 0)) = true then (none) else (if ((x44 == 0) != (x39 == 1)) = true then (none) else (laws_FnKeysLead.j4 k x33 x34 x35 x49 x50 x51 x52 x53 (decide (x44 ≥ x39))))) else (none)) else (none))) else (if x53 = true then ((impl_MoveKeyed.f k x49 x52 x51).bind fun bt462 => (if bt462.2 = true then (some (bt462.1.toList == x50.toList)) else (none))) else (some true)))
def laws_FnKeysLead.j4 : Nat → List ByteArray → ByteArray → List Int → List ByteArray → ByteArray → Int → ByteArray → Bool → Bool → Option (Bool)
 | 0, _, _, _, _, _, _, _, _, _ => none
 | k + 1, x33, x34, x35, x49, x50, x51, x52, x53, x455 => if x455 = true then (none) else (laws_FnKeysLead.l1 k x33 x34 x35 x49 x50 x51 x52 x53 (x33.length : Int) 0)
def laws_FnKeysLead.l1 : Nat → List ByteArray → ByteArray → List Int → List ByteArray → ByteArray → Int → ByteArray → Bool → Int → Int → Option (Bool)
 | 0, _, _, _, _, _, _, _, _, _, _ => none
 | k + 1, x33, x34, x35, x49, x50, x51, x52, x53, x457, x458 => if x458 < x457 then ((impl_FitsKey.f k x33 x34 x458).bind fun bt459 => (if bt459.2 = true then ((laws_yHas.f k x35 x458).bind fun t461 => (if (bt459.1 != t461) = true then (none) else (laws_FnKeysLead.l1 k x33 x34 x35 x49 x50 x51 x52 x53 x457 (wrap64 (x458 + 1))))) else (none))) else (if x53 = true then ((impl_MoveKeyed.f k x49 x52 x51).bind fun bt457 => (if bt457.2 = true then (some (bt457.1.toList == x50.toList)) else (none))) else (some true))
def laws_FnKeysLead.l0 : Nat → List Int → List ByteArray → ByteArray → ByteArray → List Int → Int → ByteArray → List Int → Int → Int → Option (Bool)
 | 0, _, _, _, _, _, _, _, _, _, _ => none
 | k + 1, x1, x5, x6, x7, x8, x12, x20, x170, x171, x172 => if x172 < x171 then (if 0 ≤ x172 then (if x172 < (x170.length : Int) then ((impl_FitsKey.f k x5 x20 (rd x170 x172)).bind fun bt403 => ((impl_MoveKeyed.f k x5 x20 (rd x170 x172)).bind fun bt405 => (if bt403.2 = true then (if bt403.1 = true then (if bt405.2 = true then (laws_FnKeysLead.l0 k x1 x5 x6 x7 x8 x12 bt405.1 x170 x171 (wrap64 (x172 + 1))) else (none)) else (none)) else (none)))) else (none)) else (none)) else ((impl_FewestKeyed.f k x5 x7 x6).bind fun bt407 => ((impl_CountReachedBy.f k x5 x6).bind fun bt409 => ((impl_CountReachedBy.f k x5 x7).bind fun bt411 => (if x20.toList = x7.toList then (if (x8.length : Int) = x12 then (if bt407.2 = true then (if bt407.1 = x12 then (if bt409.2 = true then (if bt411.2 = true then (if bt409.1 = bt411.1 then (if x12 ≥ bt409.1 then (none) else (laws_FnKeysLead.j2 k x1)) else (none)) else (none)) else (none)) else (none)) else (none)) else (none)) else (none)))))
end
def laws_FnKeysLead.f (k : Nat) (l0 : List Int) (l1 : List Int) : Option (Bool) := (laws_big.f l0 l1).bind fun t379 => (if t379 = true then (some true) else ((spec_DrawFirstKeyed.f k l0).bind fun bt380 => ((impl_FirstKeyed.f k bt380.1 bt380.2.1 bt380.2.2).bind fun bt385 => ((spec_FirstKeyed.f k bt380.1 bt380.2.1 bt380.2.2).bind fun bt389 => ((impl_FewestKeyed.f k bt380.1 bt380.2.1 bt380.2.2).bind fun bt393 => ((spec_FewestKeyed.f k bt380.1 bt380.2.1 bt380.2.2).bind fun bt395 => ((impl_CountKeyedWays.f k bt380.1 bt380.2.1 bt380.2.2).bind fun bt397 => ((spec_CountKeyedWays.f k bt380.1 bt380.2.1 bt380.2.2).bind fun bt399 => (if (bt385.2 != bt389.2) = true then (none) else ((laws_ySame.f k bt385.1 bt389.1).bind fun t401 => (if t401 = true then (if (bt393.2 != bt395.2) = true then (none) else (if bt393.1 = bt395.1 then (if (bt397.2 != bt399.2) = true then (none) else (if bt397.1 = bt399.1 then (if (bt393.2 != bt385.2) = true then (none) else (if bt397.2 = true then (if ((decide (bt397.1 > 0)) != bt385.2) = true then (none) else (if bt385.2 = true then (laws_FnKeysLead.j0 k l1 bt380.1 bt380.2.1 bt380.2.2 bt385.1 bt385.2 bt393.1 (!bt397.2)) else (laws_FnKeysLead.j0 k l1 bt380.1 bt380.2.1 bt380.2.2 bt385.1 bt385.2 bt393.1 false))) else (if bt385.2 = true then (laws_FnKeysLead.j0 k l1 bt380.1 bt380.2.1 bt380.2.2 bt385.1 bt385.2 bt393.1 (!bt397.2)) else (laws_FnKeysLead.j0 k l1 bt380.1 bt380.2.1 bt380.2.2 bt385.1 bt385.2 bt393.1 false)))) else (none))) else (none))) else (none))))))))))))
/-- THE ONE PURE STATEMENT of laws_FnKeysLead: yours. -/
def laws_FnKeysLead.Pure : Prop := ∀ (l0 : List Int) (l1 : List Int), l0.length ≤ maxLen → l0.length * 1 ≤ 140737488351232 → (∀ x ∈ l0, (Lit.int .u8 x).wf = true) → l1.length ≤ maxLen → l1.length * 1 ≤ 140737488351232 → (∀ x ∈ l1, (Lit.int .u8 x).wf = true) → ∃ k, laws_FnKeysLead.f k l0 l1 = some true
theorem laws_FnKeysLead.mono_l : ∀ k, (∀ y0 y1 y2 y3 y4 y5 y6 y7, LeO (laws_FnKeysLead.j0 k y0 y1 y2 y3 y4 y5 y6 y7) (laws_FnKeysLead.j0 (k + 1) y0 y1 y2 y3 y4 y5 y6 y7)) ∧ (∀ y0, LeO (laws_FnKeysLead.j2 k y0) (laws_FnKeysLead.j2 (k + 1) y0)) ∧ (∀ y0 y1 y2 y3 y4 y5 y6 y7 y8 y9 y10 y11 y12, LeO (laws_FnKeysLead.j3 k y0 y1 y2 y3 y4 y5 y6 y7 y8 y9 y10 y11 y12) (laws_FnKeysLead.j3 (k + 1) y0 y1 y2 y3 y4 y5 y6 y7 y8 y9 y10 y11 y12)) ∧ (∀ y0 y1 y2 y3 y4 y5 y6 y7 y8, LeO (laws_FnKeysLead.j4 k y0 y1 y2 y3 y4 y5 y6 y7 y8) (laws_FnKeysLead.j4 (k + 1) y0 y1 y2 y3 y4 y5 y6 y7 y8)) ∧ (∀ y0 y1 y2 y3 y4 y5 y6 y7 y8 y9, LeO (laws_FnKeysLead.l1 k y0 y1 y2 y3 y4 y5 y6 y7 y8 y9) (laws_FnKeysLead.l1 (k + 1) y0 y1 y2 y3 y4 y5 y6 y7 y8 y9)) ∧ (∀ y0 y1 y2 y3 y4 y5 y6 y7 y8 y9, LeO (laws_FnKeysLead.l0 k y0 y1 y2 y3 y4 y5 y6 y7 y8 y9) (laws_FnKeysLead.l0 (k + 1) y0 y1 y2 y3 y4 y5 y6 y7 y8 y9))
 | 0 => ⟨fun _ _ _ _ _ _ _ _ r h => by simp [laws_FnKeysLead.j0] at h, fun _ r h => by simp [laws_FnKeysLead.j2] at h, fun _ _ _ _ _ _ _ _ _ _ _ _ _ r h => by simp [laws_FnKeysLead.j3] at h, fun _ _ _ _ _ _ _ _ _ r h => by simp [laws_FnKeysLead.j4] at h, fun _ _ _ _ _ _ _ _ _ _ r h => by simp [laws_FnKeysLead.l1] at h, fun _ _ _ _ _ _ _ _ _ _ r h => by simp [laws_FnKeysLead.l0] at h⟩
 | k + 1 => by
  obtain ⟨ih0, ih1, ih2, ih3, ih4, ih5⟩ := laws_FnKeysLead.mono_l k
  refine ⟨?_, ?_, ?_, ?_, ?_, ?_⟩
  ·intro y0 y1 y2 y3 y4 y5 y6 y7
   unfold laws_FnKeysLead.j0
   repeat' first
   | (with_reducible exact ih0 _ _ _ _ _ _ _ _)
   | (with_reducible exact ih1 _)
   | (with_reducible exact ih2 _ _ _ _ _ _ _ _ _ _ _ _ _)
   | (with_reducible exact ih3 _ _ _ _ _ _ _ _ _)
   | (with_reducible exact ih4 _ _ _ _ _ _ _ _ _ _)
   | (with_reducible exact ih5 _ _ _ _ _ _ _ _ _ _)
   | (with_reducible exact impl_AreKeys.mono _ _)
   | (with_reducible exact impl_CountKeyedWays.mono _ _ _ _)
   | (with_reducible exact impl_CountReachedBy.mono _ _ _)
   | (with_reducible exact impl_FarthestByKeys.mono _ _ _)
   | (with_reducible exact impl_FewestKeyed.mono _ _ _ _)
   | (with_reducible exact impl_FirstKeyed.mono _ _ _ _)
   | (with_reducible exact impl_FitsKey.mono _ _ _ _)
   | (with_reducible exact impl_KeyedMoves.mono _ _ _)
   | (with_reducible exact impl_MoveKeyed.mono _ _ _ _)
   | (with_reducible exact laws_yHas.mono _ _ _)
   | (with_reducible exact laws_ySame.mono _ _ _)
   | (with_reducible exact spec_AreKeys.mono _ _)
   | (with_reducible exact spec_CountKeyedWays.mono _ _ _ _)
   | (with_reducible exact spec_CountReachedBy.mono _ _ _)
   | (with_reducible exact spec_DrawFirstKeyed.mono _ _)
   | (with_reducible exact spec_DrawKeyedMoves.mono _ _)
   | (with_reducible exact spec_DrawMoveKeyed.mono _ _)
   | (with_reducible exact spec_FarthestByKeys.mono _ _ _)
   | (with_reducible exact spec_FewestKeyed.mono _ _ _ _)
   | (with_reducible exact spec_FirstKeyed.mono _ _ _ _)
   | (with_reducible exact spec_FitsKey.mono _ _ _ _)
   | (with_reducible exact spec_KeyedMoves.mono _ _ _)
   | (with_reducible exact spec_MoveKeyed.mono _ _ _ _)
   | (with_reducible exact LeO.refl _)
   | (with_reducible exact LeO.none _)
   | (with_reducible refine LeO.ite ?_ ?_)
   | (with_reducible refine LeO.bind ?_ (fun _ => ?_))
   | exact ih0 _ _ _ _ _ _ _ _
   | exact ih1 _
   | exact ih2 _ _ _ _ _ _ _ _ _ _ _ _ _
   | exact ih3 _ _ _ _ _ _ _ _ _
   | exact ih4 _ _ _ _ _ _ _ _ _ _
   | exact ih5 _ _ _ _ _ _ _ _ _ _
   | exact impl_AreKeys.mono _ _
   | exact impl_CountKeyedWays.mono _ _ _ _
   | exact impl_CountReachedBy.mono _ _ _
   | exact impl_FarthestByKeys.mono _ _ _
   | exact impl_FewestKeyed.mono _ _ _ _
   | exact impl_FirstKeyed.mono _ _ _ _
   | exact impl_FitsKey.mono _ _ _ _
   | exact impl_KeyedMoves.mono _ _ _
   | exact impl_MoveKeyed.mono _ _ _ _
   | exact laws_yHas.mono _ _ _
   | exact laws_ySame.mono _ _ _
   | exact spec_AreKeys.mono _ _
   | exact spec_CountKeyedWays.mono _ _ _ _
   | exact spec_CountReachedBy.mono _ _ _
   | exact spec_DrawFirstKeyed.mono _ _
   | exact spec_DrawKeyedMoves.mono _ _
   | exact spec_DrawMoveKeyed.mono _ _
   | exact spec_FarthestByKeys.mono _ _ _
   | exact spec_FewestKeyed.mono _ _ _ _
   | exact spec_FirstKeyed.mono _ _ _ _
   | exact spec_FitsKey.mono _ _ _ _
   | exact spec_KeyedMoves.mono _ _ _
   | exact spec_MoveKeyed.mono _ _ _ _
   | exact LeO.none _
   | refine LeO.ite ?_ ?_
   | refine LeO.bind ?_ (fun _ => ?_)
  ·intro y0
   unfold laws_FnKeysLead.j2
   repeat' first
   | (with_reducible exact ih0 _ _ _ _ _ _ _ _)
   | (with_reducible exact ih1 _)
   | (with_reducible exact ih2 _ _ _ _ _ _ _ _ _ _ _ _ _)
   | (with_reducible exact ih3 _ _ _ _ _ _ _ _ _)
   | (with_reducible exact ih4 _ _ _ _ _ _ _ _ _ _)
   | (with_reducible exact ih5 _ _ _ _ _ _ _ _ _ _)
   | (with_reducible exact impl_AreKeys.mono _ _)
   | (with_reducible exact impl_CountKeyedWays.mono _ _ _ _)
   | (with_reducible exact impl_CountReachedBy.mono _ _ _)
   | (with_reducible exact impl_FarthestByKeys.mono _ _ _)
   | (with_reducible exact impl_FewestKeyed.mono _ _ _ _)
   | (with_reducible exact impl_FirstKeyed.mono _ _ _ _)
   | (with_reducible exact impl_FitsKey.mono _ _ _ _)
   | (with_reducible exact impl_KeyedMoves.mono _ _ _)
   | (with_reducible exact impl_MoveKeyed.mono _ _ _ _)
   | (with_reducible exact laws_yHas.mono _ _ _)
   | (with_reducible exact laws_ySame.mono _ _ _)
   | (with_reducible exact spec_AreKeys.mono _ _)
   | (with_reducible exact spec_CountKeyedWays.mono _ _ _ _)
   | (with_reducible exact spec_CountReachedBy.mono _ _ _)
   | (with_reducible exact spec_DrawFirstKeyed.mono _ _)
   | (with_reducible exact spec_DrawKeyedMoves.mono _ _)
   | (with_reducible exact spec_DrawMoveKeyed.mono _ _)
   | (with_reducible exact spec_FarthestByKeys.mono _ _ _)
   | (with_reducible exact spec_FewestKeyed.mono _ _ _ _)
   | (with_reducible exact spec_FirstKeyed.mono _ _ _ _)
   | (with_reducible exact spec_FitsKey.mono _ _ _ _)
   | (with_reducible exact spec_KeyedMoves.mono _ _ _)
   | (with_reducible exact spec_MoveKeyed.mono _ _ _ _)
   | (with_reducible exact LeO.refl _)
   | (with_reducible exact LeO.none _)
   | (with_reducible refine LeO.ite ?_ ?_)
   | (with_reducible refine LeO.bind ?_ (fun _ => ?_))
   | exact ih0 _ _ _ _ _ _ _ _
   | exact ih1 _
   | exact ih2 _ _ _ _ _ _ _ _ _ _ _ _ _
   | exact ih3 _ _ _ _ _ _ _ _ _
   | exact ih4 _ _ _ _ _ _ _ _ _ _
   | exact ih5 _ _ _ _ _ _ _ _ _ _
   | exact impl_AreKeys.mono _ _
   | exact impl_CountKeyedWays.mono _ _ _ _
   | exact impl_CountReachedBy.mono _ _ _
   | exact impl_FarthestByKeys.mono _ _ _
   | exact impl_FewestKeyed.mono _ _ _ _
   | exact impl_FirstKeyed.mono _ _ _ _
   | exact impl_FitsKey.mono _ _ _ _
   | exact impl_KeyedMoves.mono _ _ _
   | exact impl_MoveKeyed.mono _ _ _ _
   | exact laws_yHas.mono _ _ _
   | exact laws_ySame.mono _ _ _
   | exact spec_AreKeys.mono _ _
   | exact spec_CountKeyedWays.mono _ _ _ _
   | exact spec_CountReachedBy.mono _ _ _
   | exact spec_DrawFirstKeyed.mono _ _
   | exact spec_DrawKeyedMoves.mono _ _
   | exact spec_DrawMoveKeyed.mono _ _
   | exact spec_FarthestByKeys.mono _ _ _
   | exact spec_FewestKeyed.mono _ _ _ _
   | exact spec_FirstKeyed.mono _ _ _ _
   | exact spec_FitsKey.mono _ _ _ _
   | exact spec_KeyedMoves.mono _ _ _
   | exact spec_MoveKeyed.mono _ _ _ _
   | exact LeO.none _
   | refine LeO.ite ?_ ?_
   | refine LeO.bind ?_ (fun _ => ?_)
  ·intro y0 y1 y2 y3 y4 y5 y6 y7 y8 y9 y10 y11 y12
   unfold laws_FnKeysLead.j3
   repeat' first
   | (with_reducible exact ih0 _ _ _ _ _ _ _ _)
   | (with_reducible exact ih1 _)
   | (with_reducible exact ih2 _ _ _ _ _ _ _ _ _ _ _ _ _)
   | (with_reducible exact ih3 _ _ _ _ _ _ _ _ _)
   | (with_reducible exact ih4 _ _ _ _ _ _ _ _ _ _)
   | (with_reducible exact ih5 _ _ _ _ _ _ _ _ _ _)
   | (with_reducible exact impl_AreKeys.mono _ _)
   | (with_reducible exact impl_CountKeyedWays.mono _ _ _ _)
   | (with_reducible exact impl_CountReachedBy.mono _ _ _)
   | (with_reducible exact impl_FarthestByKeys.mono _ _ _)
   | (with_reducible exact impl_FewestKeyed.mono _ _ _ _)
   | (with_reducible exact impl_FirstKeyed.mono _ _ _ _)
   | (with_reducible exact impl_FitsKey.mono _ _ _ _)
   | (with_reducible exact impl_KeyedMoves.mono _ _ _)
   | (with_reducible exact impl_MoveKeyed.mono _ _ _ _)
   | (with_reducible exact laws_yHas.mono _ _ _)
   | (with_reducible exact laws_ySame.mono _ _ _)
   | (with_reducible exact spec_AreKeys.mono _ _)
   | (with_reducible exact spec_CountKeyedWays.mono _ _ _ _)
   | (with_reducible exact spec_CountReachedBy.mono _ _ _)
   | (with_reducible exact spec_DrawFirstKeyed.mono _ _)
   | (with_reducible exact spec_DrawKeyedMoves.mono _ _)
   | (with_reducible exact spec_DrawMoveKeyed.mono _ _)
   | (with_reducible exact spec_FarthestByKeys.mono _ _ _)
   | (with_reducible exact spec_FewestKeyed.mono _ _ _ _)
   | (with_reducible exact spec_FirstKeyed.mono _ _ _ _)
   | (with_reducible exact spec_FitsKey.mono _ _ _ _)
   | (with_reducible exact spec_KeyedMoves.mono _ _ _)
   | (with_reducible exact spec_MoveKeyed.mono _ _ _ _)
   | (with_reducible exact LeO.refl _)
   | (with_reducible exact LeO.none _)
   | (with_reducible refine LeO.ite ?_ ?_)
   | (with_reducible refine LeO.bind ?_ (fun _ => ?_))
   | exact ih0 _ _ _ _ _ _ _ _
   | exact ih1 _
   | exact ih2 _ _ _ _ _ _ _ _ _ _ _ _ _
   | exact ih3 _ _ _ _ _ _ _ _ _
   | exact ih4 _ _ _ _ _ _ _ _ _ _
   | exact ih5 _ _ _ _ _ _ _ _ _ _
   | exact impl_AreKeys.mono _ _
   | exact impl_CountKeyedWays.mono _ _ _ _
   | exact impl_CountReachedBy.mono _ _ _
   | exact impl_FarthestByKeys.mono _ _ _
   | exact impl_FewestKeyed.mono _ _ _ _
   | exact impl_FirstKeyed.mono _ _ _ _
   | exact impl_FitsKey.mono _ _ _ _
   | exact impl_KeyedMoves.mono _ _ _
   | exact impl_MoveKeyed.mono _ _ _ _
   | exact laws_yHas.mono _ _ _
   | exact laws_ySame.mono _ _ _
   | exact spec_AreKeys.mono _ _
   | exact spec_CountKeyedWays.mono _ _ _ _
   | exact spec_CountReachedBy.mono _ _ _
   | exact spec_DrawFirstKeyed.mono _ _
   | exact spec_DrawKeyedMoves.mono _ _
   | exact spec_DrawMoveKeyed.mono _ _
   | exact spec_FarthestByKeys.mono _ _ _
   | exact spec_FewestKeyed.mono _ _ _ _
   | exact spec_FirstKeyed.mono _ _ _ _
   | exact spec_FitsKey.mono _ _ _ _
   | exact spec_KeyedMoves.mono _ _ _
   | exact spec_MoveKeyed.mono _ _ _ _
   | exact LeO.none _
   | refine LeO.ite ?_ ?_
   | refine LeO.bind ?_ (fun _ => ?_)
  ·intro y0 y1 y2 y3 y4 y5 y6 y7 y8
   unfold laws_FnKeysLead.j4
   repeat' first
   | (with_reducible exact ih0 _ _ _ _ _ _ _ _)
   | (with_reducible exact ih1 _)
   | (with_reducible exact ih2 _ _ _ _ _ _ _ _ _ _ _ _ _)
   | (with_reducible exact ih3 _ _ _ _ _ _ _ _ _)
   | (with_reducible exact ih4 _ _ _ _ _ _ _ _ _ _)
   | (with_reducible exact ih5 _ _ _ _ _ _ _ _ _ _)
   | (with_reducible exact impl_AreKeys.mono _ _)
   | (with_reducible exact impl_CountKeyedWays.mono _ _ _ _)
   | (with_reducible exact impl_CountReachedBy.mono _ _ _)
   | (with_reducible exact impl_FarthestByKeys.mono _ _ _)
   | (with_reducible exact impl_FewestKeyed.mono _ _ _ _)
   | (with_reducible exact impl_FirstKeyed.mono _ _ _ _)
   | (with_reducible exact impl_FitsKey.mono _ _ _ _)
   | (with_reducible exact impl_KeyedMoves.mono _ _ _)
   | (with_reducible exact impl_MoveKeyed.mono _ _ _ _)
   | (with_reducible exact laws_yHas.mono _ _ _)
   | (with_reducible exact laws_ySame.mono _ _ _)
   | (with_reducible exact spec_AreKeys.mono _ _)
   | (with_reducible exact spec_CountKeyedWays.mono _ _ _ _)
   | (with_reducible exact spec_CountReachedBy.mono _ _ _)
   | (with_reducible exact spec_DrawFirstKeyed.mono _ _)
   | (with_reducible exact spec_DrawKeyedMoves.mono _ _)
   | (with_reducible exact spec_DrawMoveKeyed.mono _ _)
   | (with_reducible exact spec_FarthestByKeys.mono _ _ _)
   | (with_reducible exact spec_FewestKeyed.mono _ _ _ _)
   | (with_reducible exact spec_FirstKeyed.mono _ _ _ _)
   | (with_reducible exact spec_FitsKey.mono _ _ _ _)
   | (with_reducible exact spec_KeyedMoves.mono _ _ _)
   | (with_reducible exact spec_MoveKeyed.mono _ _ _ _)
   | (with_reducible exact LeO.refl _)
   | (with_reducible exact LeO.none _)
   | (with_reducible refine LeO.ite ?_ ?_)
   | (with_reducible refine LeO.bind ?_ (fun _ => ?_))
   | exact ih0 _ _ _ _ _ _ _ _
   | exact ih1 _
   | exact ih2 _ _ _ _ _ _ _ _ _ _ _ _ _
   | exact ih3 _ _ _ _ _ _ _ _ _
   | exact ih4 _ _ _ _ _ _ _ _ _ _
   | exact ih5 _ _ _ _ _ _ _ _ _ _
   | exact impl_AreKeys.mono _ _
   | exact impl_CountKeyedWays.mono _ _ _ _
   | exact impl_CountReachedBy.mono _ _ _
   | exact impl_FarthestByKeys.mono _ _ _
   | exact impl_FewestKeyed.mono _ _ _ _
   | exact impl_FirstKeyed.mono _ _ _ _
   | exact impl_FitsKey.mono _ _ _ _
   | exact impl_KeyedMoves.mono _ _ _
   | exact impl_MoveKeyed.mono _ _ _ _
   | exact laws_yHas.mono _ _ _
   | exact laws_ySame.mono _ _ _
   | exact spec_AreKeys.mono _ _
   | exact spec_CountKeyedWays.mono _ _ _ _
   | exact spec_CountReachedBy.mono _ _ _
   | exact spec_DrawFirstKeyed.mono _ _
   | exact spec_DrawKeyedMoves.mono _ _
   | exact spec_DrawMoveKeyed.mono _ _
   | exact spec_FarthestByKeys.mono _ _ _
   | exact spec_FewestKeyed.mono _ _ _ _
   | exact spec_FirstKeyed.mono _ _ _ _
   | exact spec_FitsKey.mono _ _ _ _
   | exact spec_KeyedMoves.mono _ _ _
   | exact spec_MoveKeyed.mono _ _ _ _
   | exact LeO.none _
   | refine LeO.ite ?_ ?_
   | refine LeO.bind ?_ (fun _ => ?_)
  ·intro y0 y1 y2 y3 y4 y5 y6 y7 y8 y9
   unfold laws_FnKeysLead.l1
   repeat' first
   | (with_reducible exact ih0 _ _ _ _ _ _ _ _)
   | (with_reducible exact ih1 _)
   | (with_reducible exact ih2 _ _ _ _ _ _ _ _ _ _ _ _ _)
   | (with_reducible exact ih3 _ _ _ _ _ _ _ _ _)
   | (with_reducible exact ih4 _ _ _ _ _ _ _ _ _ _)
   | (with_reducible exact ih5 _ _ _ _ _ _ _ _ _ _)
   | (with_reducible exact impl_AreKeys.mono _ _)
   | (with_reducible exact impl_CountKeyedWays.mono _ _ _ _)
   | (with_reducible exact impl_CountReachedBy.mono _ _ _)
   | (with_reducible exact impl_FarthestByKeys.mono _ _ _)
   | (with_reducible exact impl_FewestKeyed.mono _ _ _ _)
   | (with_reducible exact impl_FirstKeyed.mono _ _ _ _)
   | (with_reducible exact impl_FitsKey.mono _ _ _ _)
   | (with_reducible exact impl_KeyedMoves.mono _ _ _)
   | (with_reducible exact impl_MoveKeyed.mono _ _ _ _)
   | (with_reducible exact laws_yHas.mono _ _ _)
   | (with_reducible exact laws_ySame.mono _ _ _)
   | (with_reducible exact spec_AreKeys.mono _ _)
   | (with_reducible exact spec_CountKeyedWays.mono _ _ _ _)
   | (with_reducible exact spec_CountReachedBy.mono _ _ _)
   | (with_reducible exact spec_DrawFirstKeyed.mono _ _)
   | (with_reducible exact spec_DrawKeyedMoves.mono _ _)
   | (with_reducible exact spec_DrawMoveKeyed.mono _ _)
   | (with_reducible exact spec_FarthestByKeys.mono _ _ _)
   | (with_reducible exact spec_FewestKeyed.mono _ _ _ _)
   | (with_reducible exact spec_FirstKeyed.mono _ _ _ _)
   | (with_reducible exact spec_FitsKey.mono _ _ _ _)
   | (with_reducible exact spec_KeyedMoves.mono _ _ _)
   | (with_reducible exact spec_MoveKeyed.mono _ _ _ _)
   | (with_reducible exact LeO.refl _)
   | (with_reducible exact LeO.none _)
   | (with_reducible refine LeO.ite ?_ ?_)
   | (with_reducible refine LeO.bind ?_ (fun _ => ?_))
   | exact ih0 _ _ _ _ _ _ _ _
   | exact ih1 _
   | exact ih2 _ _ _ _ _ _ _ _ _ _ _ _ _
   | exact ih3 _ _ _ _ _ _ _ _ _
   | exact ih4 _ _ _ _ _ _ _ _ _ _
   | exact ih5 _ _ _ _ _ _ _ _ _ _
   | exact impl_AreKeys.mono _ _
   | exact impl_CountKeyedWays.mono _ _ _ _
   | exact impl_CountReachedBy.mono _ _ _
   | exact impl_FarthestByKeys.mono _ _ _
   | exact impl_FewestKeyed.mono _ _ _ _
   | exact impl_FirstKeyed.mono _ _ _ _
   | exact impl_FitsKey.mono _ _ _ _
   | exact impl_KeyedMoves.mono _ _ _
   | exact impl_MoveKeyed.mono _ _ _ _
   | exact laws_yHas.mono _ _ _
   | exact laws_ySame.mono _ _ _
   | exact spec_AreKeys.mono _ _
   | exact spec_CountKeyedWays.mono _ _ _ _
   | exact spec_CountReachedBy.mono _ _ _
   | exact spec_DrawFirstKeyed.mono _ _
   | exact spec_DrawKeyedMoves.mono _ _
   | exact spec_DrawMoveKeyed.mono _ _
   | exact spec_FarthestByKeys.mono _ _ _
   | exact spec_FewestKeyed.mono _ _ _ _
   | exact spec_FirstKeyed.mono _ _ _ _
   | exact spec_FitsKey.mono _ _ _ _
   | exact spec_KeyedMoves.mono _ _ _
   | exact spec_MoveKeyed.mono _ _ _ _
   | exact LeO.none _
   | refine LeO.ite ?_ ?_
   | refine LeO.bind ?_ (fun _ => ?_)
  ·intro y0 y1 y2 y3 y4 y5 y6 y7 y8 y9
   unfold laws_FnKeysLead.l0
   repeat' first
   | (with_reducible exact ih0 _ _ _ _ _ _ _ _)
   | (with_reducible exact ih1 _)
   | (with_reducible exact ih2 _ _ _ _ _ _ _ _ _ _ _ _ _)
   | (with_reducible exact ih3 _ _ _ _ _ _ _ _ _)
   | (with_reducible exact ih4 _ _ _ _ _ _ _ _ _ _)
   | (with_reducible exact ih5 _ _ _ _ _ _ _ _ _ _)
   | (with_reducible exact impl_AreKeys.mono _ _)
   | (with_reducible exact impl_CountKeyedWays.mono _ _ _ _)
   | (with_reducible exact impl_CountReachedBy.mono _ _ _)
   | (with_reducible exact impl_FarthestByKeys.mono _ _ _)
   | (with_reducible exact impl_FewestKeyed.mono _ _ _ _)
   | (with_reducible exact impl_FirstKeyed.mono _ _ _ _)
   | (with_reducible exact impl_FitsKey.mono _ _ _ _)
   | (with_reducible exact impl_KeyedMoves.mono _ _ _)
   | (with_reducible exact impl_MoveKeyed.mono _ _ _ _)
   | (with_reducible exact laws_yHas.mono _ _ _)
   | (with_reducible exact laws_ySame.mono _ _ _)
   | (with_reducible exact spec_AreKeys.mono _ _)
   | (with_reducible exact spec_CountKeyedWays.mono _ _ _ _)
   | (with_reducible exact spec_CountReachedBy.mono _ _ _)
   | (with_reducible exact spec_DrawFirstKeyed.mono _ _)
   | (with_reducible exact spec_DrawKeyedMoves.mono _ _)
   | (with_reducible exact spec_DrawMoveKeyed.mono _ _)
   | (with_reducible exact spec_FarthestByKeys.mono _ _ _)
   | (with_reducible exact spec_FewestKeyed.mono _ _ _ _)
   | (with_reducible exact spec_FirstKeyed.mono _ _ _ _)
   | (with_reducible exact spec_FitsKey.mono _ _ _ _)
   | (with_reducible exact spec_KeyedMoves.mono _ _ _)
   | (with_reducible exact spec_MoveKeyed.mono _ _ _ _)
   | (with_reducible exact LeO.refl _)
   | (with_reducible exact LeO.none _)
   | (with_reducible refine LeO.ite ?_ ?_)
   | (with_reducible refine LeO.bind ?_ (fun _ => ?_))
   | exact ih0 _ _ _ _ _ _ _ _
   | exact ih1 _
   | exact ih2 _ _ _ _ _ _ _ _ _ _ _ _ _
   | exact ih3 _ _ _ _ _ _ _ _ _
   | exact ih4 _ _ _ _ _ _ _ _ _ _
   | exact ih5 _ _ _ _ _ _ _ _ _ _
   | exact impl_AreKeys.mono _ _
   | exact impl_CountKeyedWays.mono _ _ _ _
   | exact impl_CountReachedBy.mono _ _ _
   | exact impl_FarthestByKeys.mono _ _ _
   | exact impl_FewestKeyed.mono _ _ _ _
   | exact impl_FirstKeyed.mono _ _ _ _
   | exact impl_FitsKey.mono _ _ _ _
   | exact impl_KeyedMoves.mono _ _ _
   | exact impl_MoveKeyed.mono _ _ _ _
   | exact laws_yHas.mono _ _ _
   | exact laws_ySame.mono _ _ _
   | exact spec_AreKeys.mono _ _
   | exact spec_CountKeyedWays.mono _ _ _ _
   | exact spec_CountReachedBy.mono _ _ _
   | exact spec_DrawFirstKeyed.mono _ _
   | exact spec_DrawKeyedMoves.mono _ _
   | exact spec_DrawMoveKeyed.mono _ _
   | exact spec_FarthestByKeys.mono _ _ _
   | exact spec_FewestKeyed.mono _ _ _ _
   | exact spec_FirstKeyed.mono _ _ _ _
   | exact spec_FitsKey.mono _ _ _ _
   | exact spec_KeyedMoves.mono _ _ _
   | exact spec_MoveKeyed.mono _ _ _ _
   | exact LeO.none _
   | refine LeO.ite ?_ ?_
   | refine LeO.bind ?_ (fun _ => ?_)
theorem laws_FnKeysLead.mono : ∀ a0 a1 k, LeO (laws_FnKeysLead.f k a0 a1) (laws_FnKeysLead.f (k + 1) a0 a1) := by
 intro a0 a1 k
 obtain ⟨ih0, ih1, ih2, ih3, ih4, ih5⟩ := laws_FnKeysLead.mono_l k
 unfold laws_FnKeysLead.f
 repeat' first
   | (with_reducible exact ih0 _ _ _ _ _ _ _ _)
   | (with_reducible exact ih1 _)
   | (with_reducible exact ih2 _ _ _ _ _ _ _ _ _ _ _ _ _)
   | (with_reducible exact ih3 _ _ _ _ _ _ _ _ _)
   | (with_reducible exact ih4 _ _ _ _ _ _ _ _ _ _)
   | (with_reducible exact ih5 _ _ _ _ _ _ _ _ _ _)
   | (with_reducible exact impl_AreKeys.mono _ _)
   | (with_reducible exact impl_CountKeyedWays.mono _ _ _ _)
   | (with_reducible exact impl_CountReachedBy.mono _ _ _)
   | (with_reducible exact impl_FarthestByKeys.mono _ _ _)
   | (with_reducible exact impl_FewestKeyed.mono _ _ _ _)
   | (with_reducible exact impl_FirstKeyed.mono _ _ _ _)
   | (with_reducible exact impl_FitsKey.mono _ _ _ _)
   | (with_reducible exact impl_KeyedMoves.mono _ _ _)
   | (with_reducible exact impl_MoveKeyed.mono _ _ _ _)
   | (with_reducible exact laws_yHas.mono _ _ _)
   | (with_reducible exact laws_ySame.mono _ _ _)
   | (with_reducible exact spec_AreKeys.mono _ _)
   | (with_reducible exact spec_CountKeyedWays.mono _ _ _ _)
   | (with_reducible exact spec_CountReachedBy.mono _ _ _)
   | (with_reducible exact spec_DrawFirstKeyed.mono _ _)
   | (with_reducible exact spec_DrawKeyedMoves.mono _ _)
   | (with_reducible exact spec_DrawMoveKeyed.mono _ _)
   | (with_reducible exact spec_FarthestByKeys.mono _ _ _)
   | (with_reducible exact spec_FewestKeyed.mono _ _ _ _)
   | (with_reducible exact spec_FirstKeyed.mono _ _ _ _)
   | (with_reducible exact spec_FitsKey.mono _ _ _ _)
   | (with_reducible exact spec_KeyedMoves.mono _ _ _)
   | (with_reducible exact spec_MoveKeyed.mono _ _ _ _)
   | (with_reducible exact LeO.refl _)
   | (with_reducible exact LeO.none _)
   | (with_reducible refine LeO.ite ?_ ?_)
   | (with_reducible refine LeO.bind ?_ (fun _ => ?_))
   | exact ih0 _ _ _ _ _ _ _ _
   | exact ih1 _
   | exact ih2 _ _ _ _ _ _ _ _ _ _ _ _ _
   | exact ih3 _ _ _ _ _ _ _ _ _
   | exact ih4 _ _ _ _ _ _ _ _ _ _
   | exact ih5 _ _ _ _ _ _ _ _ _ _
   | exact impl_AreKeys.mono _ _
   | exact impl_CountKeyedWays.mono _ _ _ _
   | exact impl_CountReachedBy.mono _ _ _
   | exact impl_FarthestByKeys.mono _ _ _
   | exact impl_FewestKeyed.mono _ _ _ _
   | exact impl_FirstKeyed.mono _ _ _ _
   | exact impl_FitsKey.mono _ _ _ _
   | exact impl_KeyedMoves.mono _ _ _
   | exact impl_MoveKeyed.mono _ _ _ _
   | exact laws_yHas.mono _ _ _
   | exact laws_ySame.mono _ _ _
   | exact spec_AreKeys.mono _ _
   | exact spec_CountKeyedWays.mono _ _ _ _
   | exact spec_CountReachedBy.mono _ _ _
   | exact spec_DrawFirstKeyed.mono _ _
   | exact spec_DrawKeyedMoves.mono _ _
   | exact spec_DrawMoveKeyed.mono _ _
   | exact spec_FarthestByKeys.mono _ _ _
   | exact spec_FewestKeyed.mono _ _ _ _
   | exact spec_FirstKeyed.mono _ _ _ _
   | exact spec_FitsKey.mono _ _ _ _
   | exact spec_KeyedMoves.mono _ _ _
   | exact spec_MoveKeyed.mono _ _ _ _
   | exact LeO.none _
   | refine LeO.ite ?_ ?_
   | refine LeO.bind ?_ (fun _ => ?_)
/-- What stands open at a cut, out of reach of the walk's own closers. -/
structure Held_ (p : Prop) : Prop where mk :: (out : p)
set_option maxHeartbeats 40000000 in
set_option maxRecDepth 100000 in
noncomputable def laws_FnKeysLead.part1 : { G_ : Prop // Held_ G_ → (∀ (k : Nat) (A0 : Option Addr) (c0 : Nat) (l0 : List Int) (A1 : Option Addr) (c1 : Nat) (l1 : List Int) (r : Bool) (w : World) (hr0 : Kd.C (Kd.int .u8) w A0 l0.length l0) (hc0 : l0.length ≤ c0) (hr1 : Kd.C (Kd.int .u8) w A1 l1.length l1) (hc1 : l1.length ≤ c1) (h : laws_FnKeysLead.f k l0 l1 = some r), Calls Tryd.prog 3 #[.slice A0 l0.length c0, .slice A1 l1.length c1] w fun e w' => e = .returned (.bool r) ∧ Below w.heap.size w w') } := by
 apply Subtype.mk
 intro hrest_
 intro k A0 c0 l0 A1 c1 l1 r w hr0 hc0 hr1 hc1 h
 have HR0 := aM hr0
 have HC0 := aM hc0
 clear hr0 hc0
 have HR1 := aM hr1
 have HC1 := aM hc1
 clear hr1 hc1
 have HB := aM (Below.refl w.heap.size w)
 have H : ((laws_big.f l0 l1).bind fun t379 => (if t379 = true then (some true) else ((spec_DrawFirstKeyed.f k l0).bind fun bt380 => ((impl_FirstKeyed.f k bt380.1 bt380.2.1 bt380.2.2).bind fun bt385 => ((spec_FirstKeyed.f k bt380.1 bt380.2.1 bt380.2.2).bind fun bt389 => ((impl_FewestKeyed.f k bt380.1 bt380.2.1 bt380.2.2).bind fun bt393 => ((spec_FewestKeyed.f k bt380.1 bt380.2.1 bt380.2.2).bind fun bt395 => ((impl_CountKeyedWays.f k bt380.1 bt380.2.1 bt380.2.2).bind fun bt397 => ((spec_CountKeyedWays.f k bt380.1 bt380.2.1 bt380.2.2).bind fun bt399 => (if (bt385.2 != bt389.2) = true then (none) else ((laws_ySame.f k bt385.1 bt389.1).bind fun t401 => (if t401 = true then (if (bt393.2 != bt395.2) = true then (none) else (if bt393.1 = bt395.1 then (if (bt397.2 != bt399.2) = true then (none) else (if bt397.1 = bt399.1 then (if (bt393.2 != bt385.2) = true then (none) else (if bt397.2 = true then (if ((decide (bt397.1 > 0)) != bt385.2) = true then (none) else (if bt385.2 = true then (laws_FnKeysLead.j0 k l1 bt380.1 bt380.2.1 bt380.2.2 bt385.1 bt385.2 bt393.1 (!bt397.2)) else (laws_FnKeysLead.j0 k l1 bt380.1 bt380.2.1 bt380.2.2 bt385.1 bt385.2 bt393.1 false))) else (if bt385.2 = true then (laws_FnKeysLead.j0 k l1 bt380.1 bt380.2.1 bt380.2.2 bt385.1 bt385.2 bt393.1 (!bt397.2)) else (laws_FnKeysLead.j0 k l1 bt380.1 bt380.2.1 bt380.2.2 bt385.1 bt385.2 bt393.1 false)))) else (none))) else (none))) else (none))))))))))))) = some r := h
 clear h
 replace H := Option.bind_eq_some_iff.mp H
 obtain ⟨t379, A30, H⟩ := H
 replace H : (if t379 = true then (some true) else ((spec_DrawFirstKeyed.f k l0).bind fun bt380 => ((impl_FirstKeyed.f k bt380.1 bt380.2.1 bt380.2.2).bind fun bt385 => ((spec_FirstKeyed.f k bt380.1 bt380.2.1 bt380.2.2).bind fun bt389 => ((impl_FewestKeyed.f k bt380.1 bt380.2.1 bt380.2.2).bind fun bt393 => ((spec_FewestKeyed.f k bt380.1 bt380.2.1 bt380.2.2).bind fun bt395 => ((impl_CountKeyedWays.f k bt380.1 bt380.2.1 bt380.2.2).bind fun bt397 => ((spec_CountKeyedWays.f k bt380.1 bt380.2.1 bt380.2.2).bind fun bt399 => (if (bt385.2 != bt389.2) = true then (none) else ((laws_ySame.f k bt385.1 bt389.1).bind fun t401 => (if t401 = true then (if (bt393.2 != bt395.2) = true then (none) else (if bt393.1 = bt395.1 then (if (bt397.2 != bt399.2) = true then (none) else (if bt397.1 = bt399.1 then (if (bt393.2 != bt385.2) = true then (none) else (if bt397.2 = true then (if ((decide (bt397.1 > 0)) != bt385.2) = true then (none) else (if bt385.2 = true then (laws_FnKeysLead.j0 k l1 bt380.1 bt380.2.1 bt380.2.2 bt385.1 bt385.2 bt393.1 (!bt397.2)) else (laws_FnKeysLead.j0 k l1 bt380.1 bt380.2.1 bt380.2.2 bt385.1 bt385.2 bt393.1 false))) else (if bt385.2 = true then (laws_FnKeysLead.j0 k l1 bt380.1 bt380.2.1 bt380.2.2 bt385.1 bt385.2 bt393.1 (!bt397.2)) else (laws_FnKeysLead.j0 k l1 bt380.1 bt380.2.1 bt380.2.2 bt385.1 bt385.2 bt393.1 false)))) else (none))) else (none))) else (none)))))))))))) = some r := H
 have A3 := aM A30
 clear A30
 by_cases c4 : t379 = true
 ·as_aux_lemma =>
   subst c4
   have H1 : (some true) = some r := by rw [if_pos rfl] at H; exact H
   clear H; have H := H1; clear H1
   obtain rfl := Option.some.inj H
   go_enter Tryd.func3, Tryd.ntmps3
   go_wp2_with (first | ((with_reducible refine gate_callee (f := 4) rfl ?_); refine goesL_ (some 69) rfl rfl Tryd.func4 (by kernel_rfl) rfl #[.slice A0 l0.length c0, .slice A1 l1.length c1] rfl (by (try simp only [List.map_toArray, List.map_cons, List.map_nil]); first | done | rfl | (simp only [List.length_drop, List.length_take]; rfl)) ?_; (with_reducible refine (laws_big.calls _ _ l0 _ _ l1 true _ ?side1 ?side2 ?side3 ?side4 A3.out).mono ?_); (case side1 => repeat (first | exact HR0.out | (with_reducible refine cA ?_ _) | (with_reducible refine cN ?_ _) | (with_reducible refine cD ?_))); (case side2 => exact HC0.out); (case side3 => repeat (first | exact HR1.out | (with_reducible refine cA ?_ _) | (with_reducible refine cN ?_ _) | (with_reducible refine cD ?_))); (case side4 => exact HC1.out); rintro e w' ⟨rfl, ⟨nd, rfl⟩⟩; refine ⟨_, rfl, ?_⟩))
   go_ret
   exact ⟨by first | rfl | (simp [errW_none, errW_some] <;> rfl) | (simp [*, errW_none, errW_some] <;> rfl), by repeat (first | (with_reducible first | exact HB.out | apply bA | apply bN | apply bD) | exact HB.out)⟩
 ·as_aux_lemma =>
   replace c4 := Bool.eq_false_iff.mpr c4
   subst c4
   have H1 : ((spec_DrawFirstKeyed.f k l0).bind fun bt380 => ((impl_FirstKeyed.f k bt380.1 bt380.2.1 bt380.2.2).bind fun bt385 => ((spec_FirstKeyed.f k bt380.1 bt380.2.1 bt380.2.2).bind fun bt389 => ((impl_FewestKeyed.f k bt380.1 bt380.2.1 bt380.2.2).bind fun bt393 => ((spec_FewestKeyed.f k bt380.1 bt380.2.1 bt380.2.2).bind fun bt395 => ((impl_CountKeyedWays.f k bt380.1 bt380.2.1 bt380.2.2).bind fun bt397 => ((spec_CountKeyedWays.f k bt380.1 bt380.2.1 bt380.2.2).bind fun bt399 => (if (bt385.2 != bt389.2) = true then (none) else ((laws_ySame.f k bt385.1 bt389.1).bind fun t401 => (if t401 = true then (if (bt393.2 != bt395.2) = true then (none) else (if bt393.1 = bt395.1 then (if (bt397.2 != bt399.2) = true then (none) else (if bt397.1 = bt399.1 then (if (bt393.2 != bt385.2) = true then (none) else (if bt397.2 = true then (if ((decide (bt397.1 > 0)) != bt385.2) = true then (none) else (if bt385.2 = true then (laws_FnKeysLead.j0 k l1 bt380.1 bt380.2.1 bt380.2.2 bt385.1 bt385.2 bt393.1 (!bt397.2)) else (laws_FnKeysLead.j0 k l1 bt380.1 bt380.2.1 bt380.2.2 bt385.1 bt385.2 bt393.1 false))) else (if bt385.2 = true then (laws_FnKeysLead.j0 k l1 bt380.1 bt380.2.1 bt380.2.2 bt385.1 bt385.2 bt393.1 (!bt397.2)) else (laws_FnKeysLead.j0 k l1 bt380.1 bt380.2.1 bt380.2.2 bt385.1 bt385.2 bt393.1 false)))) else (none))) else (none))) else (none))))))))))) = some r := by rw [if_neg (show ¬ (false = true) by decide)] at H; exact H
   clear H; have H := H1; clear H1
   replace H := Option.bind_eq_some_iff.mp H
   obtain ⟨⟨t380, t383, t384⟩, A50, H⟩ := H
   replace H : ((impl_FirstKeyed.f k t380 t383 t384).bind fun bt385 => ((spec_FirstKeyed.f k t380 t383 t384).bind fun bt389 => ((impl_FewestKeyed.f k t380 t383 t384).bind fun bt393 => ((spec_FewestKeyed.f k t380 t383 t384).bind fun bt395 => ((impl_CountKeyedWays.f k t380 t383 t384).bind fun bt397 => ((spec_CountKeyedWays.f k t380 t383 t384).bind fun bt399 => (if (bt385.2 != bt389.2) = true then (none) else ((laws_ySame.f k bt385.1 bt389.1).bind fun t401 => (if t401 = true then (if (bt393.2 != bt395.2) = true then (none) else (if bt393.1 = bt395.1 then (if (bt397.2 != bt399.2) = true then (none) else (if bt397.1 = bt399.1 then (if (bt393.2 != bt385.2) = true then (none) else (if bt397.2 = true then (if ((decide (bt397.1 > 0)) != bt385.2) = true then (none) else (if bt385.2 = true then (laws_FnKeysLead.j0 k l1 t380 t383 t384 bt385.1 bt385.2 bt393.1 (!bt397.2)) else (laws_FnKeysLead.j0 k l1 t380 t383 t384 bt385.1 bt385.2 bt393.1 false))) else (if bt385.2 = true then (laws_FnKeysLead.j0 k l1 t380 t383 t384 bt385.1 bt385.2 bt393.1 (!bt397.2)) else (laws_FnKeysLead.j0 k l1 t380 t383 t384 bt385.1 bt385.2 bt393.1 false)))) else (none))) else (none))) else (none)))))))))) = some r := H
   have A5 := aM A50
   clear A50
   replace H := Option.bind_eq_some_iff.mp H
   obtain ⟨⟨t385, t386⟩, A60, H⟩ := H
   replace H : ((spec_FirstKeyed.f k t380 t383 t384).bind fun bt389 => ((impl_FewestKeyed.f k t380 t383 t384).bind fun bt393 => ((spec_FewestKeyed.f k t380 t383 t384).bind fun bt395 => ((impl_CountKeyedWays.f k t380 t383 t384).bind fun bt397 => ((spec_CountKeyedWays.f k t380 t383 t384).bind fun bt399 => (if (t386 != bt389.2) = true then (none) else ((laws_ySame.f k t385 bt389.1).bind fun t401 => (if t401 = true then (if (bt393.2 != bt395.2) = true then (none) else (if bt393.1 = bt395.1 then (if (bt397.2 != bt399.2) = true then (none) else (if bt397.1 = bt399.1 then (if (bt393.2 != t386) = true then (none) else (if bt397.2 = true then (if ((decide (bt397.1 > 0)) != t386) = true then (none) else (if t386 = true then (laws_FnKeysLead.j0 k l1 t380 t383 t384 t385 t386 bt393.1 (!bt397.2)) else (laws_FnKeysLead.j0 k l1 t380 t383 t384 t385 t386 bt393.1 false))) else (if t386 = true then (laws_FnKeysLead.j0 k l1 t380 t383 t384 t385 t386 bt393.1 (!bt397.2)) else (laws_FnKeysLead.j0 k l1 t380 t383 t384 t385 t386 bt393.1 false)))) else (none))) else (none))) else (none))))))))) = some r := H
   have A6 := aM A60
   clear A60
   replace H := Option.bind_eq_some_iff.mp H
   obtain ⟨⟨t389, t390⟩, A70, H⟩ := H
   replace H : ((impl_FewestKeyed.f k t380 t383 t384).bind fun bt393 => ((spec_FewestKeyed.f k t380 t383 t384).bind fun bt395 => ((impl_CountKeyedWays.f k t380 t383 t384).bind fun bt397 => ((spec_CountKeyedWays.f k t380 t383 t384).bind fun bt399 => (if (t386 != t390) = true then (none) else ((laws_ySame.f k t385 t389).bind fun t401 => (if t401 = true then (if (bt393.2 != bt395.2) = true then (none) else (if bt393.1 = bt395.1 then (if (bt397.2 != bt399.2) = true then (none) else (if bt397.1 = bt399.1 then (if (bt393.2 != t386) = true then (none) else (if bt397.2 = true then (if ((decide (bt397.1 > 0)) != t386) = true then (none) else (if t386 = true then (laws_FnKeysLead.j0 k l1 t380 t383 t384 t385 t386 bt393.1 (!bt397.2)) else (laws_FnKeysLead.j0 k l1 t380 t383 t384 t385 t386 bt393.1 false))) else (if t386 = true then (laws_FnKeysLead.j0 k l1 t380 t383 t384 t385 t386 bt393.1 (!bt397.2)) else (laws_FnKeysLead.j0 k l1 t380 t383 t384 t385 t386 bt393.1 false)))) else (none))) else (none))) else (none)))))))) = some r := H
   have A7 := aM A70
   clear A70
   replace H := Option.bind_eq_some_iff.mp H
   obtain ⟨⟨t393, t394⟩, A80, H⟩ := H
   replace H : ((spec_FewestKeyed.f k t380 t383 t384).bind fun bt395 => ((impl_CountKeyedWays.f k t380 t383 t384).bind fun bt397 => ((spec_CountKeyedWays.f k t380 t383 t384).bind fun bt399 => (if (t386 != t390) = true then (none) else ((laws_ySame.f k t385 t389).bind fun t401 => (if t401 = true then (if (t394 != bt395.2) = true then (none) else (if t393 = bt395.1 then (if (bt397.2 != bt399.2) = true then (none) else (if bt397.1 = bt399.1 then (if (t394 != t386) = true then (none) else (if bt397.2 = true then (if ((decide (bt397.1 > 0)) != t386) = true then (none) else (if t386 = true then (laws_FnKeysLead.j0 k l1 t380 t383 t384 t385 t386 t393 (!bt397.2)) else (laws_FnKeysLead.j0 k l1 t380 t383 t384 t385 t386 t393 false))) else (if t386 = true then (laws_FnKeysLead.j0 k l1 t380 t383 t384 t385 t386 t393 (!bt397.2)) else (laws_FnKeysLead.j0 k l1 t380 t383 t384 t385 t386 t393 false)))) else (none))) else (none))) else (none))))))) = some r := H
   have A8 := aM A80
   clear A80
   replace H := Option.bind_eq_some_iff.mp H
   obtain ⟨⟨t395, t396⟩, A90, H⟩ := H
   replace H : ((impl_CountKeyedWays.f k t380 t383 t384).bind fun bt397 => ((spec_CountKeyedWays.f k t380 t383 t384).bind fun bt399 => (if (t386 != t390) = true then (none) else ((laws_ySame.f k t385 t389).bind fun t401 => (if t401 = true then (if (t394 != t396) = true then (none) else (if t393 = t395 then (if (bt397.2 != bt399.2) = true then (none) else (if bt397.1 = bt399.1 then (if (t394 != t386) = true then (none) else (if bt397.2 = true then (if ((decide (bt397.1 > 0)) != t386) = true then (none) else (if t386 = true then (laws_FnKeysLead.j0 k l1 t380 t383 t384 t385 t386 t393 (!bt397.2)) else (laws_FnKeysLead.j0 k l1 t380 t383 t384 t385 t386 t393 false))) else (if t386 = true then (laws_FnKeysLead.j0 k l1 t380 t383 t384 t385 t386 t393 (!bt397.2)) else (laws_FnKeysLead.j0 k l1 t380 t383 t384 t385 t386 t393 false)))) else (none))) else (none))) else (none)))))) = some r := H
   have A9 := aM A90
   clear A90
   replace H := Option.bind_eq_some_iff.mp H
   obtain ⟨⟨t397, t398⟩, A100, H⟩ := H
   replace H : ((spec_CountKeyedWays.f k t380 t383 t384).bind fun bt399 => (if (t386 != t390) = true then (none) else ((laws_ySame.f k t385 t389).bind fun t401 => (if t401 = true then (if (t394 != t396) = true then (none) else (if t393 = t395 then (if (t398 != bt399.2) = true then (none) else (if t397 = bt399.1 then (if (t394 != t386) = true then (none) else (if t398 = true then (if ((decide (t397 > 0)) != t386) = true then (none) else (if t386 = true then (laws_FnKeysLead.j0 k l1 t380 t383 t384 t385 t386 t393 (!t398)) else (laws_FnKeysLead.j0 k l1 t380 t383 t384 t385 t386 t393 false))) else (if t386 = true then (laws_FnKeysLead.j0 k l1 t380 t383 t384 t385 t386 t393 (!t398)) else (laws_FnKeysLead.j0 k l1 t380 t383 t384 t385 t386 t393 false)))) else (none))) else (none))) else (none))))) = some r := H
   have A10 := aM A100
   clear A100
   replace H := Option.bind_eq_some_iff.mp H
   obtain ⟨⟨t399, t400⟩, A110, H⟩ := H
   replace H : (if (t386 != t390) = true then (none) else ((laws_ySame.f k t385 t389).bind fun t401 => (if t401 = true then (if (t394 != t396) = true then (none) else (if t393 = t395 then (if (t398 != t400) = true then (none) else (if t397 = t399 then (if (t394 != t386) = true then (none) else (if t398 = true then (if ((decide (t397 > 0)) != t386) = true then (none) else (if t386 = true then (laws_FnKeysLead.j0 k l1 t380 t383 t384 t385 t386 t393 (!t398)) else (laws_FnKeysLead.j0 k l1 t380 t383 t384 t385 t386 t393 false))) else (if t386 = true then (laws_FnKeysLead.j0 k l1 t380 t383 t384 t385 t386 t393 (!t398)) else (laws_FnKeysLead.j0 k l1 t380 t383 t384 t385 t386 t393 false)))) else (none))) else (none))) else (none)))) = some r := H
   have A11 := aM A110
   clear A110
   have HC12 := aM H
   clear H
   go_enter Tryd.func3, Tryd.ntmps3
   go_upto_region 10 with (first | ((with_reducible refine gate_callee (f := 4) rfl ?_); refine goesL_ (some 69) rfl rfl Tryd.func4 (by kernel_rfl) rfl #[.slice A0 l0.length c0, .slice A1 l1.length c1] rfl (by (try simp only [List.map_toArray, List.map_cons, List.map_nil]); first | done | rfl | (simp only [List.length_drop, List.length_take]; rfl)) ?_; (with_reducible refine (laws_big.calls _ _ l0 _ _ l1 false _ ?side1 ?side2 ?side3 ?side4 A3.out).mono ?_); (case side1 => repeat (first | exact HR0.out | (with_reducible refine cA ?_ _) | (with_reducible refine cN ?_ _) | (with_reducible refine cD ?_))); (case side2 => exact HC0.out); (case side3 => repeat (first | exact HR1.out | (with_reducible refine cA ?_ _) | (with_reducible refine cN ?_ _) | (with_reducible refine cD ?_))); (case side4 => exact HC1.out); rintro e w' ⟨rfl, ⟨nd, rfl⟩⟩; refine ⟨_, rfl, ?_⟩) | ((with_reducible refine gate_callee (f := 5) rfl ?_); refine goesL_ (some 72) rfl rfl Tryd.func5 (by kernel_rfl) rfl #[.slice A0 l0.length c0] rfl (by (try simp only [List.map_toArray, List.map_cons, List.map_nil]); first | done | rfl | (simp only [List.length_drop, List.length_take]; rfl)) ?_; (with_reducible refine (spec_DrawFirstKeyed.calls k _ _ l0 t380 t383 t384 _ ?side1 ?side2 A5.out).mono ?_); (case side1 => repeat (first | exact HR0.out | (with_reducible refine cA ?_ _) | (with_reducible refine cN ?_ _) | (with_reducible refine cD ?_))); (case side2 => exact HC0.out); rintro e w13 ⟨v381, rfl, ho0, hb⟩; refine ⟨_, rfl, ?_⟩; have n0_ := aM (Kd.V_lower (Kd.V_mono (ok' := fun k_ => True) ho0 (fun k_ hk_ => trivial)) (below_size (by repeat (first | (with_reducible first | exact HB.out | apply bA | apply bN | apply bD) | exact HB.out)))); have n1_ := aM (below_step (by repeat (first | (with_reducible first | exact HB.out | apply bA | apply bN | apply bD) | exact HB.out)) hb); clear HB; have HO382 := n0_; have HB := n1_; clear n0_ n1_; (try clear hb); (try clear hb2); (try clear hk); (try clear hi); (try clear ho0); obtain ⟨Ao14, co14, eo14⟩ := Kd.V_slice HO382.out; subst eo14) | ((with_reducible refine gate_callee (f := 6) rfl ?_); refine goesL_ (some 80) rfl rfl Tryd.func6 (by kernel_rfl) rfl #[.slice Ao14 t380.length co14, .string t383, .string t384] rfl (by (try simp only [List.map_toArray, List.map_cons, List.map_nil]); first | done | rfl | (simp only [List.length_drop, List.length_take]; rfl)) ?_; (with_reducible refine (impl_FirstKeyed.calls k _ _ t380 t383 t384 t385 t386 _ ?side1 ?side2 A6.out).mono ?_); (case side1 => repeat (first | exact (Kd.V_reads' HO382.out).2.2 | (with_reducible refine cA ?_ _) | (with_reducible refine cN ?_ _) | (with_reducible refine cD ?_))); (case side2 => exact (Kd.V_reads' HO382.out).2.1); rintro e w15 ⟨v387, rfl, ho0, hb⟩; refine ⟨_, rfl, ?_⟩; have n0_ := aM (Kd.V_elder' (by (with_reducible repeat (first | apply Kd.V_alloc | apply Kd.V_drewN | apply Kd.V_drew)); exact HO382.out) (Kd.R_base ho0) hb); have n1_ := aM (Kd.R_lower ho0 (below_size (by repeat (first | (with_reducible first | exact HB.out | apply bA | apply bN | apply bD) | exact HB.out)))); have n2_ := aM (below_step (by repeat (first | (with_reducible first | exact HB.out | apply bA | apply bN | apply bD) | exact HB.out)) hb); clear HO382; clear HB; have HO382 := n0_; have HO388 := n1_; have HB := n2_; clear n0_ n1_ n2_; (try clear hb); (try clear hb2); (try clear hk); (try clear hi); (try clear ho0)) | ((with_reducible refine gate_callee (f := 7) rfl ?_); refine goesL_ (some 87) rfl rfl Tryd.func7 (by kernel_rfl) rfl #[.slice Ao14 t380.length co14, .string t383, .string t384] rfl (by (try simp only [List.map_toArray, List.map_cons, List.map_nil]); first | done | rfl | (simp only [List.length_drop, List.length_take]; rfl)) ?_; (with_reducible refine (spec_FirstKeyed.calls k _ _ t380 t383 t384 t389 t390 _ ?side1 ?side2 A7.out).mono ?_); (case side1 => repeat (first | exact (Kd.V_reads' HO382.out).2.2 | (with_reducible refine cA ?_ _) | (with_reducible refine cN ?_ _) | (with_reducible refine cD ?_))); (case side2 => exact (Kd.V_reads' HO382.out).2.1); rintro e w16 ⟨v391, rfl, ho0, hb⟩; refine ⟨_, rfl, ?_⟩; have n0_ := aM (Kd.V_elder' (by (with_reducible repeat (first | apply Kd.V_alloc | apply Kd.V_drewN | apply Kd.V_drew)); exact HO382.out) (Kd.R_base ho0) hb); have n1_ := aM (Kd.R_elder' (by (with_reducible repeat (first | apply rA | apply rN | apply rD)); exact HO388.out) (Kd.R_base ho0) hb); have n2_ := aM (Kd.R_lower (Kd.R_new' ho0 (Kd.R_lt (by (with_reducible repeat (first | apply rA | apply rN | apply rD)); exact HO388.out))) (below_size (by repeat (first | (with_reducible first | exact HB.out | apply bA | apply bN | apply bD) | exact HB.out)))); have n3_ := aM (below_step (by repeat (first | (with_reducible first | exact HB.out | apply bA | apply bN | apply bD) | exact HB.out)) hb); clear HO382; clear HO388; clear HB; have HO382 := n0_; have HO388 := n1_; have HO392 := n2_; have HB := n3_; clear n0_ n1_ n2_ n3_; (try clear hb); (try clear hb2); (try clear hk); (try clear hi); (try clear ho0)) | ((with_reducible refine gate_callee (f := 8) rfl ?_); refine goesL_ (some 94) rfl rfl Tryd.func8 (by kernel_rfl) rfl #[.slice Ao14 t380.length co14, .string t383, .string t384] rfl (by (try simp only [List.map_toArray, List.map_cons, List.map_nil]); first | done | rfl | (simp only [List.length_drop, List.length_take]; rfl)) ?_; (with_reducible refine (impl_FewestKeyed.calls k _ _ t380 t383 t384 t393 t394 _ ?side1 ?side2 A8.out).mono ?_); (case side1 => repeat (first | exact (Kd.V_reads' HO382.out).2.2 | (with_reducible refine cA ?_ _) | (with_reducible refine cN ?_ _) | (with_reducible refine cD ?_))); (case side2 => exact (Kd.V_reads' HO382.out).2.1); rintro e w17 ⟨rfl, hb⟩; refine ⟨_, rfl, ?_⟩; have n0_ := aM (Kd.V_below (by (with_reducible repeat (first | apply Kd.V_alloc | apply Kd.V_drewN | apply Kd.V_drew)); exact HO382.out) hb); have n1_ := aM (Kd.R_below (by (with_reducible repeat (first | apply rA | apply rN | apply rD)); exact HO388.out) hb); have n2_ := aM (Kd.R_below (by (with_reducible repeat (first | apply rA | apply rN | apply rD)); exact HO392.out) hb); have n3_ := aM (below_step (by repeat (first | (with_reducible first | exact HB.out | apply bA | apply bN | apply bD) | exact HB.out)) hb); clear HO382; clear HO388; clear HO392; clear HB; have HO382 := n0_; have HO388 := n1_; have HO392 := n2_; have HB := n3_; clear n0_ n1_ n2_ n3_; (try clear hb); (try clear hb2); (try clear hk); (try clear hi)) | ((with_reducible refine gate_callee (f := 9) rfl ?_); refine goesL_ (some 101) rfl rfl Tryd.func9 (by kernel_rfl) rfl #[.slice Ao14 t380.length co14, .string t383, .string t384] rfl (by (try simp only [List.map_toArray, List.map_cons, List.map_nil]); first | done | rfl | (simp only [List.length_drop, List.length_take]; rfl)) ?_; (with_reducible refine (spec_FewestKeyed.calls k _ _ t380 t383 t384 t395 t396 _ ?side1 ?side2 A9.out).mono ?_); (case side1 => repeat (first | exact (Kd.V_reads' HO382.out).2.2 | (with_reducible refine cA ?_ _) | (with_reducible refine cN ?_ _) | (with_reducible refine cD ?_))); (case side2 => exact (Kd.V_reads' HO382.out).2.1); rintro e w18 ⟨rfl, hb⟩; refine ⟨_, rfl, ?_⟩; have n0_ := aM (Kd.V_below (by (with_reducible repeat (first | apply Kd.V_alloc | apply Kd.V_drewN | apply Kd.V_drew)); exact HO382.out) hb); have n1_ := aM (Kd.R_below (by (with_reducible repeat (first | apply rA | apply rN | apply rD)); exact HO388.out) hb); have n2_ := aM (Kd.R_below (by (with_reducible repeat (first | apply rA | apply rN | apply rD)); exact HO392.out) hb); have n3_ := aM (below_step (by repeat (first | (with_reducible first | exact HB.out | apply bA | apply bN | apply bD) | exact HB.out)) hb); clear HO382; clear HO388; clear HO392; clear HB; have HO382 := n0_; have HO388 := n1_; have HO392 := n2_; have HB := n3_; clear n0_ n1_ n2_ n3_; (try clear hb); (try clear hb2); (try clear hk); (try clear hi)) | ((with_reducible refine gate_callee (f := 10) rfl ?_); refine goesL_ (some 108) rfl rfl Tryd.func10 (by kernel_rfl) rfl #[.slice Ao14 t380.length co14, .string t383, .string t384] rfl (by (try simp only [List.map_toArray, List.map_cons, List.map_nil]); first | done | rfl | (simp only [List.length_drop, List.length_take]; rfl)) ?_; (with_reducible refine (impl_CountKeyedWays.calls k _ _ t380 t383 t384 t397 t398 _ ?side1 ?side2 A10.out).mono ?_); (case side1 => repeat (first | exact (Kd.V_reads' HO382.out).2.2 | (with_reducible refine cA ?_ _) | (with_reducible refine cN ?_ _) | (with_reducible refine cD ?_))); (case side2 => exact (Kd.V_reads' HO382.out).2.1); rintro e w19 ⟨rfl, hb⟩; refine ⟨_, rfl, ?_⟩; have n0_ := aM (Kd.V_below (by (with_reducible repeat (first | apply Kd.V_alloc | apply Kd.V_drewN | apply Kd.V_drew)); exact HO382.out) hb); have n1_ := aM (Kd.R_below (by (with_reducible repeat (first | apply rA | apply rN | apply rD)); exact HO388.out) hb); have n2_ := aM (Kd.R_below (by (with_reducible repeat (first | apply rA | apply rN | apply rD)); exact HO392.out) hb); have n3_ := aM (below_step (by repeat (first | (with_reducible first | exact HB.out | apply bA | apply bN | apply bD) | exact HB.out)) hb); clear HO382; clear HO388; clear HO392; clear HB; have HO382 := n0_; have HO388 := n1_; have HO392 := n2_; have HB := n3_; clear n0_ n1_ n2_ n3_; (try clear hb); (try clear hb2); (try clear hk); (try clear hi)) | ((with_reducible refine gate_callee (f := 11) rfl ?_); refine goesL_ (some 115) rfl rfl Tryd.func11 (by kernel_rfl) rfl #[.slice Ao14 t380.length co14, .string t383, .string t384] rfl (by (try simp only [List.map_toArray, List.map_cons, List.map_nil]); first | done | rfl | (simp only [List.length_drop, List.length_take]; rfl)) ?_; (with_reducible refine (spec_CountKeyedWays.calls k _ _ t380 t383 t384 t399 t400 _ ?side1 ?side2 A11.out).mono ?_); (case side1 => repeat (first | exact (Kd.V_reads' HO382.out).2.2 | (with_reducible refine cA ?_ _) | (with_reducible refine cN ?_ _) | (with_reducible refine cD ?_))); (case side2 => exact (Kd.V_reads' HO382.out).2.1); rintro e w20 ⟨rfl, hb⟩; refine ⟨_, rfl, ?_⟩; have n0_ := aM (Kd.V_below (by (with_reducible repeat (first | apply Kd.V_alloc | apply Kd.V_drewN | apply Kd.V_drew)); exact HO382.out) hb); have n1_ := aM (Kd.R_below (by (with_reducible repeat (first | apply rA | apply rN | apply rD)); exact HO388.out) hb); have n2_ := aM (Kd.R_below (by (with_reducible repeat (first | apply rA | apply rN | apply rD)); exact HO392.out) hb); have n3_ := aM (below_step (by repeat (first | (with_reducible first | exact HB.out | apply bA | apply bN | apply bD) | exact HB.out)) hb); clear HO382; clear HO388; clear HO392; clear HB; have HO382 := n0_; have HO388 := n1_; have HO392 := n2_; have HB := n3_; clear n0_ n1_ n2_ n3_; (try clear hb); (try clear hb2); (try clear hk); (try clear hi)))
   (try simp only [Act.put, sA, sB, sC])
   go_cut [167] (fun v167 wc => ∃ (kq : Nat) (x167_11 : Bool), v167 = .bool x167_11 ∧ Aside0 (laws_FnKeysLead.j0 kq l1 t380 t383 t384 t385 t386 t393 x167_11 = some r) ∧ Aside0 (kq ≤ k) ∧ Aside0 (Kd.V Kd.string 9 wc w.heap.size (fun k_ => some k_ ≠ (v387 : Value).ownBlock) (.slice Ao14 t380.length co14) t380) ∧ Aside0 (Kd.R (Kd.int .i64) 3 wc w.heap.size (fun _ => True) v387 t385) ∧ Aside0 (Below w.heap.size w wc))
   case first =>
    as_aux_lemma =>
     have H := HC12.out
     clear HC12
     by_cases c21 : (t386 != t390) = true
     ·rw [if_pos c21] at H
      exact absurd H (by simp)
     ·as_aux_lemma =>
       rw [if_neg c21] at H
       have c21b0 : (t386 != t390) = false := by simpa using c21
       (try (have c21b1 : decide (t386 = t390) = true := by simpa using c21))
       (try (have c21b2 : (t386 == t390) = true := by simpa using c21))
       clear c21
       (first | rw [c21b0] | (simp only [i64_w, i32_w]; rw [c21b0]) | skip)
       replace H := Option.bind_eq_some_iff.mp H
       obtain ⟨t401, A220, H⟩ := H
       replace H : (if t401 = true then (if (t394 != t396) = true then (none) else (if t393 = t395 then (if (t398 != t400) = true then (none) else (if t397 = t399 then (if (t394 != t386) = true then (none) else (if t398 = true then (if ((decide (t397 > 0)) != t386) = true then (none) else (if t386 = true then (laws_FnKeysLead.j0 k l1 t380 t383 t384 t385 t386 t393 (!t398)) else (laws_FnKeysLead.j0 k l1 t380 t383 t384 t385 t386 t393 false))) else (if t386 = true then (laws_FnKeysLead.j0 k l1 t380 t383 t384 t385 t386 t393 (!t398)) else (laws_FnKeysLead.j0 k l1 t380 t383 t384 t385 t386 t393 false)))) else (none))) else (none))) else (none)) = some r := H
       have A22 := aM A220
       clear A220
       by_cases c23 : t401 = true
       ·as_aux_lemma =>
         subst c23
         have H1 : (if (t394 != t396) = true then (none) else (if t393 = t395 then (if (t398 != t400) = true then (none) else (if t397 = t399 then (if (t394 != t386) = true then (none) else (if t398 = true then (if ((decide (t397 > 0)) != t386) = true then (none) else (if t386 = true then (laws_FnKeysLead.j0 k l1 t380 t383 t384 t385 t386 t393 (!t398)) else (laws_FnKeysLead.j0 k l1 t380 t383 t384 t385 t386 t393 false))) else (if t386 = true then (laws_FnKeysLead.j0 k l1 t380 t383 t384 t385 t386 t393 (!t398)) else (laws_FnKeysLead.j0 k l1 t380 t383 t384 t385 t386 t393 false)))) else (none))) else (none))) = some r := by rw [if_pos rfl] at H; exact H
         clear H; have H := H1; clear H1
         by_cases c24 : (t394 != t396) = true
         ·rw [if_pos c24] at H
          exact absurd H (by simp)
         ·as_aux_lemma =>
           rw [if_neg c24] at H
           have c24b0 : (t394 != t396) = false := by simpa using c24
           (try (have c24b1 : decide (t394 = t396) = true := by simpa using c24))
           (try (have c24b2 : (t394 == t396) = true := by simpa using c24))
           clear c24
           by_cases c27 : t393 = t395
           ·as_aux_lemma =>
             rw [if_pos c27] at H
             have c27b0 : (t393 == t395) = true := beq_iff_eq.mpr c27
             have c27b1 : (t393 != t395) = false := bne_eq_false_iff_eq.mpr c27
             clear c27
             by_cases c28 : (t398 != t400) = true
             ·rw [if_pos c28] at H
              exact absurd H (by simp)
             ·as_aux_lemma =>
               rw [if_neg c28] at H
               have c28b0 : (t398 != t400) = false := by simpa using c28
               (try (have c28b1 : decide (t398 = t400) = true := by simpa using c28))
               (try (have c28b2 : (t398 == t400) = true := by simpa using c28))
               clear c28
               by_cases c31 : t397 = t399
               ·as_aux_lemma =>
                 rw [if_pos c31] at H
                 have c31b0 : (t397 == t399) = true := beq_iff_eq.mpr c31
                 have c31b1 : (t397 != t399) = false := bne_eq_false_iff_eq.mpr c31
                 clear c31
                 by_cases c32 : (t394 != t386) = true
                 ·rw [if_pos c32] at H
                  exact absurd H (by simp)
                 ·as_aux_lemma =>
                   rw [if_neg c32] at H
                   have c32b0 : (t394 != t386) = false := by simpa using c32
                   (try (have c32b1 : decide (t394 = t386) = true := by simpa using c32))
                   (try (have c32b2 : (t394 == t386) = true := by simpa using c32))
                   clear c32
                   by_cases c35 : t398 = true
                   ·subst c35
                    have H1 : (if ((decide (t397 > 0)) != t386) = true then (none) else (if t386 = true then (laws_FnKeysLead.j0 k l1 t380 t383 t384 t385 t386 t393 (!true)) else (laws_FnKeysLead.j0 k l1 t380 t383 t384 t385 t386 t393 false))) = some r := by rw [if_pos rfl] at H; exact H
                    clear H; have H := H1; clear H1
                    by_cases c36 : ((decide (t397 > 0)) != t386) = true
                    ·rw [if_pos c36] at H
                     exact absurd H (by simp)
                    ·rw [if_neg c36] at H
                     have c36b0 : ((decide (t397 > 0)) != t386) = false := by simpa using c36
                     (try (have c36b1 : decide ((decide (t397 > 0)) = t386) = true := by simpa using c36))
                     (try (have c36b2 : ((decide (t397 > 0)) == t386) = true := by simpa using c36))
                     clear c36
                     by_cases c39 : t386 = true
                     ·as_aux_lemma =>
                       subst c39
                       have H1 : (laws_FnKeysLead.j0 k l1 t380 t383 t384 t385 true t393 (!true)) = some r := by rw [if_pos rfl] at H; exact H
                       clear H; have H := H1; clear H1
                       have H' := aM H
                       clear H
                       obtain ⟨Ao40, co40, eo40⟩ := Kd.R_slice HO388.out
                       subst eo40
                       obtain ⟨Ao41, co41, eo41⟩ := Kd.R_slice HO392.out
                       subst eo41
                       go_wp2_with (first | (go_at_call 12; (with_reducible refine (laws_ySame.calls k _ _ t385 _ _ t389 true _ ?side1 ?side2 ?side3 ?side4 A22.out).mono ?_); (case side1 => repeat (first | exact (Kd.R_reads' HO388.out).2.2 | (with_reducible refine cA ?_ _) | (with_reducible refine cN ?_ _) | (with_reducible refine cD ?_))); (case side2 => exact (Kd.R_reads' HO388.out).2.1); (case side3 => repeat (first | exact (Kd.R_reads' HO392.out).2.2 | (with_reducible refine cA ?_ _) | (with_reducible refine cN ?_ _) | (with_reducible refine cD ?_))); (case side4 => exact (Kd.R_reads' HO392.out).2.1); rintro e w' ⟨rfl, ⟨nd, rfl⟩⟩))
                       go_meet
                       case rel => exact ⟨_, (!true), (by first | rfl | (simp; done) | (simp [*]; done)), H', ⟨by first | omega | exact Nat.le_refl _⟩, ⟨by (with_reducible repeat (first | apply Kd.V_alloc | apply Kd.V_drewN | apply Kd.V_drew)); exact Kd.V_mono HO382.out (fun _ hk => hk.1.2)⟩, ⟨by (with_reducible repeat (first | apply rA | apply rN | apply rD)); exact Kd.R_mono HO388.out (fun _ hk => trivial)⟩, ⟨by repeat (first | (with_reducible first | exact HB.out | apply bA | apply bN | apply bD) | exact HB.out)⟩⟩
                     ·as_aux_lemma =>
                       replace c39 := Bool.eq_false_iff.mpr c39
                       subst c39
                       have H1 : (laws_FnKeysLead.j0 k l1 t380 t383 t384 t385 false t393 false) = some r := by rw [if_neg (show ¬ (false = true) by decide)] at H; exact H
                       clear H; have H := H1; clear H1
                       have H' := aM H
                       clear H
                       obtain ⟨Ao42, co42, eo42⟩ := Kd.R_slice HO388.out
                       subst eo42
                       obtain ⟨Ao43, co43, eo43⟩ := Kd.R_slice HO392.out
                       subst eo43
                       go_wp2_with (first | (go_at_call 12; (with_reducible refine (laws_ySame.calls k _ _ t385 _ _ t389 true _ ?side1 ?side2 ?side3 ?side4 A22.out).mono ?_); (case side1 => repeat (first | exact (Kd.R_reads' HO388.out).2.2 | (with_reducible refine cA ?_ _) | (with_reducible refine cN ?_ _) | (with_reducible refine cD ?_))); (case side2 => exact (Kd.R_reads' HO388.out).2.1); (case side3 => repeat (first | exact (Kd.R_reads' HO392.out).2.2 | (with_reducible refine cA ?_ _) | (with_reducible refine cN ?_ _) | (with_reducible refine cD ?_))); (case side4 => exact (Kd.R_reads' HO392.out).2.1); rintro e w' ⟨rfl, ⟨nd, rfl⟩⟩))
                       go_meet
                       case rel => exact ⟨_, (false), (by first | rfl | (simp; done) | (simp [*]; done)), H', ⟨by first | omega | exact Nat.le_refl _⟩, ⟨by (with_reducible repeat (first | apply Kd.V_alloc | apply Kd.V_drewN | apply Kd.V_drew)); exact Kd.V_mono HO382.out (fun _ hk => hk.1.2)⟩, ⟨by (with_reducible repeat (first | apply rA | apply rN | apply rD)); exact Kd.R_mono HO388.out (fun _ hk => trivial)⟩, ⟨by repeat (first | (with_reducible first | exact HB.out | apply bA | apply bN | apply bD) | exact HB.out)⟩⟩
                   ·replace c35 := Bool.eq_false_iff.mpr c35
                    subst c35
                    have H1 : (if t386 = true then (laws_FnKeysLead.j0 k l1 t380 t383 t384 t385 t386 t393 (!false)) else (laws_FnKeysLead.j0 k l1 t380 t383 t384 t385 t386 t393 false)) = some r := by rw [if_neg (show ¬ (false = true) by decide)] at H; exact H
                    clear H; have H := H1; clear H1
                    by_cases c44 : t386 = true
                    ·as_aux_lemma =>
                      subst c44
                      have H1 : (laws_FnKeysLead.j0 k l1 t380 t383 t384 t385 true t393 (!false)) = some r := by rw [if_pos rfl] at H; exact H
                      clear H; have H := H1; clear H1
                      have H' := aM H
                      clear H
                      obtain ⟨Ao45, co45, eo45⟩ := Kd.R_slice HO388.out
                      subst eo45
                      obtain ⟨Ao46, co46, eo46⟩ := Kd.R_slice HO392.out
                      subst eo46
                      go_wp2_with (first | (go_at_call 12; (with_reducible refine (laws_ySame.calls k _ _ t385 _ _ t389 true _ ?side1 ?side2 ?side3 ?side4 A22.out).mono ?_); (case side1 => repeat (first | exact (Kd.R_reads' HO388.out).2.2 | (with_reducible refine cA ?_ _) | (with_reducible refine cN ?_ _) | (with_reducible refine cD ?_))); (case side2 => exact (Kd.R_reads' HO388.out).2.1); (case side3 => repeat (first | exact (Kd.R_reads' HO392.out).2.2 | (with_reducible refine cA ?_ _) | (with_reducible refine cN ?_ _) | (with_reducible refine cD ?_))); (case side4 => exact (Kd.R_reads' HO392.out).2.1); rintro e w' ⟨rfl, ⟨nd, rfl⟩⟩))
                      go_meet
                      case rel => exact ⟨_, (!false), (by first | rfl | (simp; done) | (simp [*]; done)), H', ⟨by first | omega | exact Nat.le_refl _⟩, ⟨by (with_reducible repeat (first | apply Kd.V_alloc | apply Kd.V_drewN | apply Kd.V_drew)); exact Kd.V_mono HO382.out (fun _ hk => hk.1.2)⟩, ⟨by (with_reducible repeat (first | apply rA | apply rN | apply rD)); exact Kd.R_mono HO388.out (fun _ hk => trivial)⟩, ⟨by repeat (first | (with_reducible first | exact HB.out | apply bA | apply bN | apply bD) | exact HB.out)⟩⟩
                    ·as_aux_lemma =>
                      replace c44 := Bool.eq_false_iff.mpr c44
                      subst c44
                      have H1 : (laws_FnKeysLead.j0 k l1 t380 t383 t384 t385 false t393 false) = some r := by rw [if_neg (show ¬ (false = true) by decide)] at H; exact H
                      clear H; have H := H1; clear H1
                      have H' := aM H
                      clear H
                      obtain ⟨Ao47, co47, eo47⟩ := Kd.R_slice HO388.out
                      subst eo47
                      obtain ⟨Ao48, co48, eo48⟩ := Kd.R_slice HO392.out
                      subst eo48
                      go_wp2_with (first | (go_at_call 12; (with_reducible refine (laws_ySame.calls k _ _ t385 _ _ t389 true _ ?side1 ?side2 ?side3 ?side4 A22.out).mono ?_); (case side1 => repeat (first | exact (Kd.R_reads' HO388.out).2.2 | (with_reducible refine cA ?_ _) | (with_reducible refine cN ?_ _) | (with_reducible refine cD ?_))); (case side2 => exact (Kd.R_reads' HO388.out).2.1); (case side3 => repeat (first | exact (Kd.R_reads' HO392.out).2.2 | (with_reducible refine cA ?_ _) | (with_reducible refine cN ?_ _) | (with_reducible refine cD ?_))); (case side4 => exact (Kd.R_reads' HO392.out).2.1); rintro e w' ⟨rfl, ⟨nd, rfl⟩⟩))
                      go_meet
                      case rel => exact ⟨_, (false), (by first | rfl | (simp; done) | (simp [*]; done)), H', ⟨by first | omega | exact Nat.le_refl _⟩, ⟨by (with_reducible repeat (first | apply Kd.V_alloc | apply Kd.V_drewN | apply Kd.V_drew)); exact Kd.V_mono HO382.out (fun _ hk => hk.1.2)⟩, ⟨by (with_reducible repeat (first | apply rA | apply rN | apply rD)); exact Kd.R_mono HO388.out (fun _ hk => trivial)⟩, ⟨by repeat (first | (with_reducible first | exact HB.out | apply bA | apply bN | apply bD) | exact HB.out)⟩⟩
               ·rw [if_neg c31] at H
                exact absurd H (by simp)
           ·rw [if_neg c27] at H
            exact absurd H (by simp)
       ·replace c23 := Bool.eq_false_iff.mpr c23
        subst c23
        have H1 : (none) = some r := by rw [if_neg (show ¬ (false = true) by decide)] at H; exact H
        exact absurd H1 (by simp)
   case rest =>
    as_aux_lemma =>
     clear HC12
     try clear c1
     try clear c2
     try clear p2
     try clear c3
     try clear c4
     try clear c5
     try clear c6
     try clear c7
     try clear c8
     try clear c9
     try clear c10
     try clear c11
     try clear c21
     try clear c21b0
     try clear c21b1
     try clear c21b2
     try clear c23
     try clear c24
     try clear c24b0
     try clear c24b1
     try clear c24b2
     try clear c27
     try clear c27b0
     try clear c27b1
     try clear c28
     try clear c28b0
     try clear c28b1
     try clear c28b2
     try clear c31
     try clear c31b0
     try clear c31b1
     try clear c32
     try clear c32b0
     try clear c32b1
     try clear c32b2
     try clear c35
     try clear c36
     try clear c36b0
     try clear c36b1
     try clear c36b2
     try clear c39
     try clear c44
     obtain ⟨kq, x167_11, rfl, HA, HJ11, HO_5, HO_8, HB⟩ := hcut
     cases kq with
     | zero => exact absurd HA.out (by simp [laws_FnKeysLead.j0])
     | succ kj11 =>
      have H := HA.out
      clear HA
      simp only [laws_FnKeysLead.j0] at H
      by_cases c55 : x167_11 = true
      ·subst c55
       have H1 : (none) = some r := by rw [if_pos rfl] at H; exact H
       exact absurd H1 (by simp)
      ·as_aux_lemma =>
        replace c55 := Bool.eq_false_iff.mpr c55
        subst c55
        have H1 : (if t386 = true then (laws_FnKeysLead.l0 kj11 l1 t380 t383 t384 t385 t393 t383 t385 (t385.length : Int) 0) else (laws_FnKeysLead.j2 kj11 l1)) = some r := by rw [if_neg (show ¬ (false = true) by decide)] at H; exact H
        clear H; have H := H1; clear H1
        have HC56 := aM H
        clear H
        go_upto_if 168 with (fail)
        go_cut [] (fun wc => ∃ (kq : Nat), Aside0 (laws_FnKeysLead.j2 kq l1 = some r) ∧ Aside0 (kq ≤ kj11) ∧ Aside0 (Below w.heap.size w wc))
        case first =>
         as_aux_lemma =>
          have H := HC56.out
          clear HC56
          by_cases c57 : t386 = true
          ·as_aux_lemma =>
            subst c57
            have H1 : (laws_FnKeysLead.l0 kj11 l1 t380 t383 t384 t385 t393 t383 t385 (t385.length : Int) 0) = some r := by rw [if_pos rfl] at H; exact H
            clear H; have H := H1; clear H1
            have H' := aM H
            clear H
            obtain ⟨Ao58, co58, eo58⟩ := Kd.R_slice HO_8.out
            subst eo58
            go_wp2
            go_loopg [20, 172] kj11 (fun kq v20 v172 w' => ∃ (x20_2 : ByteArray) (x172_2 : Int), v20 = .string x20_2 ∧ v172 = .int .i64 x172_2 ∧ Aside0 (laws_FnKeysLead.l0 kq l1 t380 t383 t384 t385 t393 x20_2 t385 (t385.length : Int) x172_2 = some r) ∧ Aside0 (kq ≤ kj11) ∧ Aside0 (Kd.V Kd.string 9 w' w.heap.size (fun k_ => some k_ ≠ ((.slice Ao58 t385.length co58) : Value).ownBlock ∧ some k_ ≠ ((.slice Ao58 t385.length co58) : Value).ownBlock) (.slice Ao14 t380.length co14) t380) ∧ Aside0 (Kd.R (Kd.int .i64) 3 w' w.heap.size (fun _ => True) (.slice Ao58 t385.length co58) t385) ∧ Aside0 (Kd.R (Kd.int .i64) 3 w' w.heap.size (fun _ => True) (.slice Ao58 t385.length co58) t385) ∧ Aside0 (Below w.heap.size w w'))
            case atStart => exact ⟨(t383), (0), (by first | rfl | (simp; done) | (simp [*]; done)), (by first | rfl | (simp; done) | (simp [*]; done)), H', ⟨Nat.le_refl _⟩, ⟨by (with_reducible repeat (first | apply Kd.V_alloc | apply Kd.V_drewN | apply Kd.V_drew)); exact Kd.V_mono HO_5.out (fun _ hk => ⟨hk, hk⟩)⟩, ⟨by (with_reducible repeat (first | apply rA | apply rN | apply rD)); exact HO_8.out⟩, ⟨by (with_reducible repeat (first | apply rA | apply rN | apply rD)); exact HO_8.out⟩, ⟨by repeat (first | (with_reducible first | exact HB.out | apply bA | apply bN | apply bD) | exact HB.out)⟩⟩
            case round =>
             as_aux_lemma =>
              clear H'
              try clear c1
              try clear c2
              try clear p2
              try clear c3
              try clear c4
              try clear c5
              try clear c6
              try clear c7
              try clear c8
              try clear c9
              try clear c10
              try clear c11
              try clear c21
              try clear c21b0
              try clear c21b1
              try clear c21b2
              try clear c23
              try clear c24
              try clear c24b0
              try clear c24b1
              try clear c24b2
              try clear c27
              try clear c27b0
              try clear c27b1
              try clear c28
              try clear c28b0
              try clear c28b1
              try clear c28b2
              try clear c31
              try clear c31b0
              try clear c31b1
              try clear c32
              try clear c32b0
              try clear c32b1
              try clear c32b2
              try clear c35
              try clear c36
              try clear c36b0
              try clear c36b1
              try clear c36b2
              try clear c39
              try clear c44
              try clear c55
              try clear c57
              try clear p2
              obtain ⟨x20_2, x172_2, rfl, rfl, HA, HK2, HO_5, HO_8, HO_170, HB⟩ := hrel
              cases gk with
              | zero => exact absurd HA.out (by simp [laws_FnKeysLead.l0])
              | succ k2 =>
               have H := HA.out
               clear HA
               simp only [laws_FnKeysLead.l0] at H
               by_cases c59 : x172_2 < (t385.length : Int)
               ·as_aux_lemma =>
                 rw [if_pos c59] at H
                 have c59b0 : decide (x172_2 < (t385.length : Int)) = true := decide_eq_true c59
                 clear c59
                 (first | rw [c59b0] | (simp only [i64_w, i32_w]; rw [c59b0]) | skip)
                 by_cases c60 : 0 ≤ x172_2
                 ·as_aux_lemma =>
                   rw [if_pos c60] at H
                   have c60b0 : decide (0 ≤ x172_2) = true := decide_eq_true c60
                   clear c60
                   by_cases c61 : x172_2 < (t385.length : Int)
                   ·rw [if_pos c61] at H
                    have c61b0 : decide (x172_2 < (t385.length : Int)) = true := decide_eq_true c61
                    clear c61
                    replace H := Option.bind_eq_some_iff.mp H
                    obtain ⟨⟨t403, t404⟩, A620, H⟩ := H
                    replace H : ((impl_MoveKeyed.f k2 t380 x20_2 (rd t385 x172_2)).bind fun bt405 => (if t404 = true then (if t403 = true then (if bt405.2 = true then (laws_FnKeysLead.l0 k2 l1 t380 t383 t384 t385 t393 bt405.1 t385 (t385.length : Int) (wrap64 (x172_2 + 1))) else (none)) else (none)) else (none))) = some r := H
                    have A62 := aM A620
                    clear A620
                    replace H := Option.bind_eq_some_iff.mp H
                    obtain ⟨⟨t405, t406⟩, A630, H⟩ := H
                    replace H : (if t404 = true then (if t403 = true then (if t406 = true then (laws_FnKeysLead.l0 k2 l1 t380 t383 t384 t385 t393 t405 t385 (t385.length : Int) (wrap64 (x172_2 + 1))) else (none)) else (none)) else (none)) = some r := H
                    have A63 := aM A630
                    clear A630
                    by_cases c64 : t404 = true
                    ·subst c64
                     have H1 : (if t403 = true then (if t406 = true then (laws_FnKeysLead.l0 k2 l1 t380 t383 t384 t385 t393 t405 t385 (t385.length : Int) (wrap64 (x172_2 + 1))) else (none)) else (none)) = some r := by rw [if_pos rfl] at H; exact H
                     clear H; have H := H1; clear H1
                     by_cases c65 : t403 = true
                     ·subst c65
                      have H1 : (if t406 = true then (laws_FnKeysLead.l0 k2 l1 t380 t383 t384 t385 t393 t405 t385 (t385.length : Int) (wrap64 (x172_2 + 1))) else (none)) = some r := by rw [if_pos rfl] at H; exact H
                      clear H; have H := H1; clear H1
                      by_cases c66 : t406 = true
                      ·as_aux_lemma =>
                        subst c66
                        have H1 : (laws_FnKeysLead.l0 k2 l1 t380 t383 t384 t385 t393 t405 t385 (t385.length : Int) (wrap64 (x172_2 + 1))) = some r := by rw [if_pos rfl] at H; exact H
                        clear H; have H := H1; clear H1
                        have H' := aM H
                        clear H
                        have p402 : 0 ≤ (x172_2 : Int) := of_decide_eq_true (by first | (with_reducible assumption) | assumption)
                        have q402 : x172_2 < (t385.length : Int) := of_decide_eq_true (by first | (with_reducible assumption) | assumption)
                        obtain ⟨ad402, e402, hx402_0⟩ := Kd.at_int (Kd.R_reads' HO_170.out).2.2 x172_2 p402 q402
                        cases e402
                        replace p402 := eq_true p402
                        replace q402 := eq_true q402
                        go_wp2_with (first | ((with_reducible refine gate_callee (f := 13) rfl ?_); refine goesL_ (some 180) rfl rfl Tryd.func13 (by kernel_rfl) rfl #[.slice Ao14 t380.length co14, .string x20_2, .int .i64 (rd t385 x172_2)] rfl (by (try simp only [List.map_toArray, List.map_cons, List.map_nil]); first | done | rfl | (simp only [List.length_drop, List.length_take]; rfl)) ?_; (with_reducible refine (impl_FitsKey.calls k2 _ _ t380 x20_2 (rd t385 x172_2) true true _ ?side1 ?side2 A62.out).mono ?_); (case side1 => repeat (first | exact (Kd.V_reads' HO_5.out).2.2 | (with_reducible refine cA ?_ _) | (with_reducible refine cN ?_ _) | (with_reducible refine cD ?_))); (case side2 => exact (Kd.V_reads' HO_5.out).2.1); rintro e w67 ⟨rfl, hb⟩; refine ⟨_, rfl, ?_⟩; have n0_ := aM (Kd.V_below (by (with_reducible repeat (first | apply Kd.V_alloc | apply Kd.V_drewN | apply Kd.V_drew)); exact HO_5.out) hb); have n1_ := aM (Kd.R_below (by (with_reducible repeat (first | apply rA | apply rN | apply rD)); exact HO_8.out) hb); have n2_ := aM (Kd.R_below (by (with_reducible repeat (first | apply rA | apply rN | apply rD)); exact HO_170.out) hb); have n3_ := aM (below_step (by repeat (first | (with_reducible first | exact HB.out | apply bA | apply bN | apply bD) | exact HB.out)) hb); clear HO_5; clear HO_8; clear HO_170; clear HB; have HO_5 := n0_; have HO_8 := n1_; have HO_170 := n2_; have HB := n3_; clear n0_ n1_ n2_ n3_; (try clear hb); (try clear hb2); (try clear hk); (try clear hi)) | ((with_reducible refine gate_callee (f := 14) rfl ?_); refine goesL_ (some 187) rfl rfl Tryd.func14 (by kernel_rfl) rfl #[.slice Ao14 t380.length co14, .string x20_2, .int .i64 (rd t385 x172_2)] rfl (by (try simp only [List.map_toArray, List.map_cons, List.map_nil]); first | done | rfl | (simp only [List.length_drop, List.length_take]; rfl)) ?_; (with_reducible refine (impl_MoveKeyed.calls k2 _ _ t380 x20_2 (rd t385 x172_2) t405 true _ ?side1 ?side2 A63.out).mono ?_); (case side1 => repeat (first | exact (Kd.V_reads' HO_5.out).2.2 | (with_reducible refine cA ?_ _) | (with_reducible refine cN ?_ _) | (with_reducible refine cD ?_))); (case side2 => exact (Kd.V_reads' HO_5.out).2.1); rintro e w68 ⟨rfl, hb⟩; refine ⟨_, rfl, ?_⟩; have n0_ := aM (Kd.V_below (by (with_reducible repeat (first | apply Kd.V_alloc | apply Kd.V_drewN | apply Kd.V_drew)); exact HO_5.out) hb); have n1_ := aM (Kd.R_below (by (with_reducible repeat (first | apply rA | apply rN | apply rD)); exact HO_8.out) hb); have n2_ := aM (Kd.R_below (by (with_reducible repeat (first | apply rA | apply rN | apply rD)); exact HO_170.out) hb); have n3_ := aM (below_step (by repeat (first | (with_reducible first | exact HB.out | apply bA | apply bN | apply bD) | exact HB.out)) hb); clear HO_5; clear HO_8; clear HO_170; clear HB; have HO_5 := n0_; have HO_8 := n1_; have HO_170 := n2_; have HB := n3_; clear n0_ n1_ n2_ n3_; (try clear hb); (try clear hb2); (try clear hk); (try clear hi)))
                        go_roundg k2
                        case measure => have := HJ11.out; have := HK2.out; omega
                        case rel => exact ⟨(t405), (wrap64 (x172_2 + 1)), (by first | rfl | (simp; done) | (simp [*]; done)), (by first | rfl | (simp; done) | (simp [*]; done)), H', ⟨by have := HJ11.out; have := HK2.out; omega⟩, ⟨by (with_reducible repeat (first | apply Kd.V_alloc | apply Kd.V_drewN | apply Kd.V_drew)); exact HO_5.out⟩, ⟨by (with_reducible repeat (first | apply rA | apply rN | apply rD)); exact HO_8.out⟩, ⟨by (with_reducible repeat (first | apply rA | apply rN | apply rD)); exact HO_170.out⟩, ⟨by repeat (first | (with_reducible first | exact HB.out | apply bA | apply bN | apply bD) | exact HB.out)⟩⟩
                      ·replace c66 := Bool.eq_false_iff.mpr c66
                       subst c66
                       have H1 : (none) = some r := by rw [if_neg (show ¬ (false = true) by decide)] at H; exact H
                       exact absurd H1 (by simp)
                     ·replace c65 := Bool.eq_false_iff.mpr c65
                      subst c65
                      have H1 : (none) = some r := by rw [if_neg (show ¬ (false = true) by decide)] at H; exact H
                      exact absurd H1 (by simp)
                    ·replace c64 := Bool.eq_false_iff.mpr c64
                     subst c64
                     have H1 : (none) = some r := by rw [if_neg (show ¬ (false = true) by decide)] at H; exact H
                     exact absurd H1 (by simp)
                   ·rw [if_neg c61] at H
                    exact absurd H (by simp)
                 ·rw [if_neg c60] at H
                  exact absurd H (by simp)
               ·as_aux_lemma =>
                 rw [if_neg c59] at H
                 have c59b0 : decide (x172_2 < (t385.length : Int)) = false := decide_eq_false c59
                 clear c59
                 (first | rw [c59b0] | (simp only [i64_w, i32_w]; rw [c59b0]) | skip)
                 replace H := Option.bind_eq_some_iff.mp H
                 obtain ⟨⟨t407, t408⟩, A750, H⟩ := H
                 replace H : ((impl_CountReachedBy.f k2 t380 t383).bind fun bt409 => ((impl_CountReachedBy.f k2 t380 t384).bind fun bt411 => (if x20_2.toList = t384.toList then (if (t385.length : Int) = t393 then (if t408 = true then (if t407 = t393 then (if bt409.2 = true then (if bt411.2 = true then (if bt409.1 = bt411.1 then (if t393 ≥ bt409.1 then (none) else (laws_FnKeysLead.j2 k2 l1)) else (none)) else (none)) else (none)) else (none)) else (none)) else (none)) else (none)))) = some r := H
                 have A75 := aM A750
                 clear A750
                 replace H := Option.bind_eq_some_iff.mp H
                 obtain ⟨⟨t409, t410⟩, A760, H⟩ := H
                 replace H : ((impl_CountReachedBy.f k2 t380 t384).bind fun bt411 => (if x20_2.toList = t384.toList then (if (t385.length : Int) = t393 then (if t408 = true then (if t407 = t393 then (if t410 = true then (if bt411.2 = true then (if t409 = bt411.1 then (if t393 ≥ t409 then (none) else (laws_FnKeysLead.j2 k2 l1)) else (none)) else (none)) else (none)) else (none)) else (none)) else (none)) else (none))) = some r := H
                 have A76 := aM A760
                 clear A760
                 replace H := Option.bind_eq_some_iff.mp H
                 obtain ⟨⟨t411, t412⟩, A770, H⟩ := H
                 replace H : (if x20_2.toList = t384.toList then (if (t385.length : Int) = t393 then (if t408 = true then (if t407 = t393 then (if t410 = true then (if t412 = true then (if t409 = t411 then (if t393 ≥ t409 then (none) else (laws_FnKeysLead.j2 k2 l1)) else (none)) else (none)) else (none)) else (none)) else (none)) else (none)) else (none)) = some r := H
                 have A77 := aM A770
                 clear A770
                 by_cases c78 : x20_2.toList = t384.toList
                 ·as_aux_lemma =>
                   rw [if_pos c78] at H
                   have c78b0 : (x20_2.toList == t384.toList) = true := beq_iff_eq.mpr c78
                   have c78b1 : (x20_2.toList != t384.toList) = false := bne_eq_false_iff_eq.mpr c78
                   clear c78
                   by_cases c79 : (t385.length : Int) = t393
                   ·rw [if_pos c79] at H
                    have c79b0 : ((t385.length : Int) == t393) = true := beq_iff_eq.mpr c79
                    have c79b1 : ((t385.length : Int) != t393) = false := bne_eq_false_iff_eq.mpr c79
                    clear c79
                    by_cases c80 : t408 = true
                    ·subst c80
                     have H1 : (if t407 = t393 then (if t410 = true then (if t412 = true then (if t409 = t411 then (if t393 ≥ t409 then (none) else (laws_FnKeysLead.j2 k2 l1)) else (none)) else (none)) else (none)) else (none)) = some r := by rw [if_pos rfl] at H; exact H
                     clear H; have H := H1; clear H1
                     by_cases c81 : t407 = t393
                     ·rw [if_pos c81] at H
                      have c81b0 : (t407 == t393) = true := beq_iff_eq.mpr c81
                      have c81b1 : (t407 != t393) = false := bne_eq_false_iff_eq.mpr c81
                      clear c81
                      by_cases c82 : t410 = true
                      ·subst c82
                       have H1 : (if t412 = true then (if t409 = t411 then (if t393 ≥ t409 then (none) else (laws_FnKeysLead.j2 k2 l1)) else (none)) else (none)) = some r := by rw [if_pos rfl] at H; exact H
                       clear H; have H := H1; clear H1
                       by_cases c83 : t412 = true
                       ·subst c83
                        have H1 : (if t409 = t411 then (if t393 ≥ t409 then (none) else (laws_FnKeysLead.j2 k2 l1)) else (none)) = some r := by rw [if_pos rfl] at H; exact H
                        clear H; have H := H1; clear H1
                        by_cases c84 : t409 = t411
                        ·rw [if_pos c84] at H
                         have c84b0 : (t409 == t411) = true := beq_iff_eq.mpr c84
                         have c84b1 : (t409 != t411) = false := bne_eq_false_iff_eq.mpr c84
                         clear c84
                         by_cases c85 : t393 ≥ t409
                         ·rw [if_pos c85] at H
                          exact absurd H (by simp)
                         ·as_aux_lemma =>
                           rw [if_neg c85] at H
                           have c85b0 : decide (t409 ≤ t393) = false := decide_eq_false c85
                           clear c85
                           have H' := aM H
                           clear H
                           go_wp2_with (first | ((with_reducible refine gate_callee (f := 8) rfl ?_); refine goesL_ (some 206) rfl rfl Tryd.func8 (by kernel_rfl) rfl #[.slice Ao14 t380.length co14, .string t384, .string t383] rfl (by (try simp only [List.map_toArray, List.map_cons, List.map_nil]); first | done | rfl | (simp only [List.length_drop, List.length_take]; rfl)) ?_; (with_reducible refine (impl_FewestKeyed.calls k2 _ _ t380 t384 t383 t407 true _ ?side1 ?side2 A75.out).mono ?_); (case side1 => repeat (first | exact (Kd.V_reads' HO_5.out).2.2 | (with_reducible refine cA ?_ _) | (with_reducible refine cN ?_ _) | (with_reducible refine cD ?_))); (case side2 => exact (Kd.V_reads' HO_5.out).2.1); rintro e w89 ⟨rfl, hb⟩; refine ⟨_, rfl, ?_⟩; have n0_ := aM (Kd.V_below (by (with_reducible repeat (first | apply Kd.V_alloc | apply Kd.V_drewN | apply Kd.V_drew)); exact HO_5.out) hb); have n1_ := aM (Kd.R_below (by (with_reducible repeat (first | apply rA | apply rN | apply rD)); exact HO_8.out) hb); have n2_ := aM (Kd.R_below (by (with_reducible repeat (first | apply rA | apply rN | apply rD)); exact HO_170.out) hb); have n3_ := aM (below_step (by repeat (first | (with_reducible first | exact HB.out | apply bA | apply bN | apply bD) | exact HB.out)) hb); clear HO_5; clear HO_8; clear HO_170; clear HB; have HO_5 := n0_; have HO_8 := n1_; have HO_170 := n2_; have HB := n3_; clear n0_ n1_ n2_ n3_; (try clear hb); (try clear hb2); (try clear hk); (try clear hi)) | ((with_reducible refine gate_callee (f := 15) rfl ?_); refine goesL_ (some 212) rfl rfl Tryd.func15 (by kernel_rfl) rfl #[.slice Ao14 t380.length co14, .string t383] rfl (by (try simp only [List.map_toArray, List.map_cons, List.map_nil]); first | done | rfl | (simp only [List.length_drop, List.length_take]; rfl)) ?_; (with_reducible refine (impl_CountReachedBy.calls k2 _ _ t380 t383 t409 true _ ?side1 ?side2 A76.out).mono ?_); (case side1 => repeat (first | exact (Kd.V_reads' HO_5.out).2.2 | (with_reducible refine cA ?_ _) | (with_reducible refine cN ?_ _) | (with_reducible refine cD ?_))); (case side2 => exact (Kd.V_reads' HO_5.out).2.1); rintro e w90 ⟨rfl, hb⟩; refine ⟨_, rfl, ?_⟩; have n0_ := aM (Kd.V_below (by (with_reducible repeat (first | apply Kd.V_alloc | apply Kd.V_drewN | apply Kd.V_drew)); exact HO_5.out) hb); have n1_ := aM (Kd.R_below (by (with_reducible repeat (first | apply rA | apply rN | apply rD)); exact HO_8.out) hb); have n2_ := aM (Kd.R_below (by (with_reducible repeat (first | apply rA | apply rN | apply rD)); exact HO_170.out) hb); have n3_ := aM (below_step (by repeat (first | (with_reducible first | exact HB.out | apply bA | apply bN | apply bD) | exact HB.out)) hb); clear HO_5; clear HO_8; clear HO_170; clear HB; have HO_5 := n0_; have HO_8 := n1_; have HO_170 := n2_; have HB := n3_; clear n0_ n1_ n2_ n3_; (try clear hb); (try clear hb2); (try clear hk); (try clear hi)) | ((with_reducible refine gate_callee (f := 15) rfl ?_); refine goesL_ (some 218) rfl rfl Tryd.func15 (by kernel_rfl) rfl #[.slice Ao14 t380.length co14, .string t384] rfl (by (try simp only [List.map_toArray, List.map_cons, List.map_nil]); first | done | rfl | (simp only [List.length_drop, List.length_take]; rfl)) ?_; (with_reducible refine (impl_CountReachedBy.calls k2 _ _ t380 t384 t411 true _ ?side1 ?side2 A77.out).mono ?_); (case side1 => repeat (first | exact (Kd.V_reads' HO_5.out).2.2 | (with_reducible refine cA ?_ _) | (with_reducible refine cN ?_ _) | (with_reducible refine cD ?_))); (case side2 => exact (Kd.V_reads' HO_5.out).2.1); rintro e w91 ⟨rfl, hb⟩; refine ⟨_, rfl, ?_⟩; have n0_ := aM (Kd.V_below (by (with_reducible repeat (first | apply Kd.V_alloc | apply Kd.V_drewN | apply Kd.V_drew)); exact HO_5.out) hb); have n1_ := aM (Kd.R_below (by (with_reducible repeat (first | apply rA | apply rN | apply rD)); exact HO_8.out) hb); have n2_ := aM (Kd.R_below (by (with_reducible repeat (first | apply rA | apply rN | apply rD)); exact HO_170.out) hb); have n3_ := aM (below_step (by repeat (first | (with_reducible first | exact HB.out | apply bA | apply bN | apply bD) | exact HB.out)) hb); clear HO_5; clear HO_8; clear HO_170; clear HB; have HO_5 := n0_; have HO_8 := n1_; have HO_170 := n2_; have HB := n3_; clear n0_ n1_ n2_ n3_; (try clear hb); (try clear hb2); (try clear hk); (try clear hi)))
                           go_meet
                           case rel => exact ⟨_, H', ⟨by have := HJ11.out; have := HK2.out; first | omega | exact Nat.le_refl _⟩, ⟨by repeat (first | (with_reducible first | exact HB.out | apply bA | apply bN | apply bD) | exact HB.out)⟩⟩
                        ·rw [if_neg c84] at H
                         exact absurd H (by simp)
                       ·replace c83 := Bool.eq_false_iff.mpr c83
                        subst c83
                        have H1 : (none) = some r := by rw [if_neg (show ¬ (false = true) by decide)] at H; exact H
                        exact absurd H1 (by simp)
                      ·replace c82 := Bool.eq_false_iff.mpr c82
                       subst c82
                       have H1 : (none) = some r := by rw [if_neg (show ¬ (false = true) by decide)] at H; exact H
                       exact absurd H1 (by simp)
                     ·rw [if_neg c81] at H
                      exact absurd H (by simp)
                    ·replace c80 := Bool.eq_false_iff.mpr c80
                     subst c80
                     have H1 : (none) = some r := by rw [if_neg (show ¬ (false = true) by decide)] at H; exact H
                     exact absurd H1 (by simp)
                   ·rw [if_neg c79] at H
                    exact absurd H (by simp)
                 ·rw [if_neg c78] at H
                  exact absurd H (by simp)
          ·as_aux_lemma =>
            replace c57 := Bool.eq_false_iff.mpr c57
            subst c57
            have H1 : (laws_FnKeysLead.j2 kj11 l1) = some r := by rw [if_neg (show ¬ (false = true) by decide)] at H; exact H
            clear H; have H := H1; clear H1
            have H' := aM H
            clear H
            go_wp2
            go_meet
            case rel => exact ⟨_, H', ⟨by have := HJ11.out; first | omega | exact Nat.le_refl _⟩, ⟨by repeat (first | (with_reducible first | exact HB.out | apply bA | apply bN | apply bD) | exact HB.out)⟩⟩
        case rest =>
         rename_i za_ zb_ zc_ zd_ ze_ zf_ zg_ zh_ zi_ zj_ zk_ zl_ zm_ zn_ zo_ zp_ zq_ zr_ zs_ zt_ zu_ zv_ zw_ zx_ zy_ zz_ z0_ z1_ z2_ z3_ z4_ z5_ z6_ z7_ z8_ z9_ zba_ zbb_ zbc_ zbd_ zbe_ zbf_ zbg_ zbh_ zbi_ zbj_ zbk_ zbl_ zbm_ zbn_ zbo_ zbp_ zbq_ zbr_ zbs_ zbt_ zbu_ zbv_ zbw_ zbx_ zby_ zbz_ zb0_ zb1_ zb2_ zb3_ zb4_ zb5_ zb6_ zb7_ zb8_ zb9_ zca_ zcb_ zcc_ zcd_ zce_ zcf_ zcg_ zch_ zci_ zcj_ zck_ zcl_ zcm_ zcn_ zco_ zcp_ zcq_ zcr_ zcs_ zct_ zcu_ zcv_ zcw_ zcx_ zcy_ zcz_ zc0_ zc1_ zc2_ zc3_ zc4_ zc5_ zc6_ zc7_ zc8_ zc9_ zda_ zdb_ zdc_ zdd_ zde_ zdf_ zdg_ zdh_ zdi_ zdj_ zdk_ zdl_ zdm_ zdn_ zdo_ zdp_ zdq_ zdr_ zds_ zdt_ zdu_ zdv_ zdw_ zdx_ zdy_ zdz_ zd0_ zd1_ zd2_ zd3_ zd4_ zd5_ zd6_ zd7_ zd8_ zd9_ zea_ zeb_ zec_ zed_ zee_ zef_ zeg_ zeh_ zei_ zej_ zek_ zel_ zem_ zen_ zeo_ zep_ zeq_ zer_ zes_ zet_ zeu_ zev_ zew_ zex_ zey_ zez_ ze0_ ze1_ ze2_ ze3_ ze4_ ze5_ ze6_ ze7_ ze8_ ze9_ zfa_ zfb_ zfc_ zfd_ zfe_ zff_ zfg_ zfh_ zfi_ zfj_ zfk_ zfl_ zfm_ zfn_ zfo_ zfp_ zfq_ zfr_ zfs_ zft_ zfu_ zfv_ zfw_ zfx_ zfy_ zfz_ zf0_ zf1_ zf2_ zf3_ zf4_ zf5_ zf6_ zf7_ zf8_ zf9_ zga_ zgb_ zgc_ zgd_ zge_ zgf_ zgg_ zgh_ zgi_ zgj_ zgk_ zgl_ zgm_ zgn_ zgo_ zgp_ zgq_ zgr_ zgs_ zgt_ zgu_ zgv_ zgw_ zgx_ zgy_ zgz_ zg0_ zg1_ zg2_ zg3_ zg4_ zg5_ zg6_ zg7_ zg8_ zg9_ zha_ zhb_ zhc_ zhd_ zhe_ zhf_ zhg_ zhh_ zhi_ zhj_ zhk_ zhl_ zhm_ zhn_ zho_ zhp_ zhq_ zhr_ zhs_ zht_ zhu_ zhv_ zhw_ zhx_ zhy_ zhz_ zh0_ zh1_ zh2_ zh3_ zh4_ zh5_ zh6_ zh7_ zh8_ zh9_ zia_ zib_ zic_ zid_ zie_ zif_ zig_ zih_ zii_ zij_ zik_ zil_ zim_ zin_ zio_ zip_ ziq_ zir_ zis_ zit_ ziu_ ziv_ ziw_ zix_ ziy_ ziz_ zi0_ zi1_ zi2_ zi3_ zi4_ zi5_ zi6_ zi7_ zi8_ zi9_ zja_ zjb_ zjc_ zjd_ zje_ zjf_ zjg_ zjh_ zji_ zjj_ zjk_ zjl_ zjm_ zjn_ zjo_ zjp_ zjq_ zjr_ zjs_ zjt_ zju_ zjv_ zjw_ zjx_ zjy_ zjz_ zj0_ zj1_ zj2_ zj3_ zj4_ zj5_ zj6_ zj7_ zj8_ zj9_ zka_ zkb_ zkc_ zkd_ zke_ zkf_ zkg_ zkh_ zki_ zkj_ zkk_ zkl_ zkm_ zkn_ zko_ zkp_ zkq_ zkr_ zks_ zkt_ zku_ zkv_ zkw_ zkx_ zky_ zkz_ zk0_ zk1_ zk2_ zk3_ zk4_ zk5_ zk6_ zk7_ zk8_ zk9_ zla_ zlb_ zlc_ zld_ zle_ zlf_ zlg_ zlh_ zli_ zlj_ zlk_ zll_ zlm_ zln_ zlo_ zlp_ zlq_ zlr_ zls_ zlt_ zlu_ zlv_ zlw_ zlx_ zly_ zlz_ zl0_ zl1_ zl2_
         revert k A0 c0 l0 A1 c1 l1 r w HR0 HC0 HR1 HC1 A3 t380 t383 t384 A5 t385 t386 A6 t389 t390 A7 t393 t394 A8 t395 t396 A9 t397 t398 A10 t399 t400 A11 za_ nd zb_ w13 Ao14 co14 w15 v387 w16 v391 w17 w18 w19 w20 HO382 HO388 HO392 zc_ zd_ ze_ zf_ zg_ zh_ zi_ zj_ zk_ zl_ zm_ zn_ zo_ zp_ zq_ zr_ zs_ zt_ zu_ zv_ zw_ zx_ zy_ zz_ z0_ z1_ z2_ z3_ z4_ z5_ z6_ z7_ z8_ z9_ zba_ zbb_ zbc_ zbd_ zbe_ zbf_ zbg_ zbh_ zbi_ zbj_ zbk_ zbl_ zbm_ zbn_ zbo_ zbp_ zbq_ zbr_ zbs_ zbt_ zbu_ zbv_ zbw_ zbx_ zby_ zbz_ zb0_ zb1_ zb2_ zb3_ zb4_ zb5_ zb6_ zb7_ zb8_ zb9_ zca_ zcb_ zcc_ zcd_ zce_ zcf_ zcg_ zch_ zci_ zcj_ zck_ zcl_ zcm_ zcn_ zco_ zcp_ zcq_ zcr_ zcs_ zct_ zcu_ zcv_ zcw_ zcx_ zcy_ zcz_ zc0_ zc1_ zc2_ zc3_ zc4_ zc5_ zc6_ zc7_ zc8_ zc9_ zda_ zdb_ zdc_ zdd_ zde_ zdf_ zdg_ zdh_ zdi_ zdj_ zdk_ zdl_ zdm_ zdn_ zdo_ zdp_ zdq_ zdr_ zds_ zdt_ zdu_ zdv_ zdw_ zdx_ zdy_ zdz_ zd0_ zd1_ zd2_ zd3_ zd4_ zd5_ zd6_ zd7_ zd8_ zd9_ zea_ zeb_ zec_ zed_ zee_ zef_ zeg_ zeh_ zei_ zej_ zek_ zel_ zem_ zen_ zeo_ zep_ zeq_ zer_ zes_ zet_ zeu_ zev_ zew_ zex_ zey_ zez_ ze0_ ze1_ ze2_ ze3_ ze4_ ze5_ ze6_ ze7_ ze8_ ze9_ zfa_ zfb_ zfc_ zfd_ zfe_ zff_ zfg_ zfh_ zfi_ zfj_ zfk_ zfl_ zfm_ zfn_ zfo_ zfp_ zfq_ zfr_ zfs_ zft_ zfu_ zfv_ zfw_ zfx_ zfy_ zfz_ zf0_ zf1_ zf2_ zf3_ zf4_ zf5_ zf6_ zf7_ zf8_ zf9_ zga_ zgb_ zgc_ zgd_ zge_ zgf_ zgg_ zgh_ zgi_ zgj_ zgk_ zgl_ zgm_ zgn_ zgo_ zgp_ zgq_ zgr_ zgs_ zgt_ zgu_ zgv_ zgw_ zgx_ zgy_ zgz_ zg0_ zg1_ zg2_ zg3_ zg4_ zg5_ zg6_ zg7_ zg8_ zg9_ zha_ zhb_ zhc_ zhd_ zhe_ zhf_ zhg_ zhh_ zhi_ zhj_ zhk_ zhl_ zhm_ zhn_ zho_ zhp_ zhq_ zhr_ zhs_ zht_ zhu_ zhv_ zhw_ zhx_ zhy_ zhz_ zh0_ zh1_ zh2_ zh3_ zh4_ zh5_ zh6_ zh7_ zh8_ zh9_ zia_ zib_ zic_ zid_ zie_ zif_ zig_ zih_ zii_ zij_ zik_ zil_ zim_ zin_ zio_ zip_ ziq_ zir_ zis_ zit_ ziu_ ziv_ ziw_ zix_ ziy_ ziz_ zi0_ zi1_ zi2_ zi3_ zi4_ zi5_ zi6_ zi7_ zi8_ zi9_ zja_ zjb_ zjc_ zjd_ zje_ zjf_ zjg_ zjh_ zji_ zjj_ zjk_ zjl_ zjm_ zjn_ zjo_ zjp_ zjq_ zjr_ zjs_ zjt_ zju_ zjv_ zjw_ zjx_ zjy_ zjz_ zj0_ zj1_ zj2_ zj3_ zj4_ zj5_ zj6_ zj7_ zj8_ zj9_ zka_ zkb_ zkc_ zkd_ zke_ zkf_ zkg_ zkh_ zki_ zkj_ zkk_ zkl_ zkm_ zkn_ zko_ zkp_ zkq_ zkr_ zks_ zkt_ zku_ zkv_ zkw_ zkx_ zky_ zkz_ zk0_ zk1_ zk2_ zk3_ zk4_ zk5_ zk6_ zk7_ zk8_ zk9_ zla_ zlb_ zlc_ zld_ zle_ zlf_ zlg_ zlh_ zli_ zlj_ zlk_ zll_ zlm_ zln_ zlo_ zlp_ zlq_ zlr_ zls_ zlt_ zlu_ zlv_ zlw_ zlx_ zly_ zlz_ zl0_ HO_5 HO_8 HB kj11 HJ11 HC56 zl1_ zl2_ wc u4 u20 u22 u23 u24 u25 u26 u27 u28 u29 u30 u31 u32 u67 u68 u69 u70 u71 u72 u73 u74 u75 u76 u77 u78 u79 u80 u81 u82 u83 u84 u85 u86 u87 u88 u89 u90 u91 u92 u93 u94 u95 u96 u97 u98 u99 u100 u101 u102 u103 u104 u105 u106 u107 u108 u109 u110 u111 u112 u113 u114 u115 u116 u117 u118 u119 u120 u121 u122 u123 u124 u125 u126 u127 u128 u129 u130 u131 u132 u133 u134 u135 u136 u137 u138 u139 u140 u141 u142 u143 u144 u145 u146 u147 u148 u149 u150 u151 u152 u153 u154 u155 u156 u157 u158 u159 u160 u161 u162 u163 u164 u165 u166 u167 u168 u169 u170 u171 u172 u173 u174 u175 u176 u177 u178 u179 u180 u181 u182 u183 u184 u185 u186 u187 u188 u189 u190 u191 u192 u193 u194 u195 u196 u197 u198 u199 u200 u201 u202 u203 u204 u205 u206 u207 u208 u209 u210 u211 u212 u213 u214 u215 u216 u217 u218 u219 u220 u221 u222 u223 u224 u225 u226 u227 u228 u229 u230 u231 u232 u233 u234 u235 u236 u237 u238 u239 u240 u241 u242 u243 u244 u245 u246 u247 u248 u249 u250 u251 u252 u253 u254 u255 u256 u257 u258 u259 u260 u261 u262 u263 u264 u265 u266 u267 u268 u269 u270 u271 u272 u273 u274 u275 u276 u277 u278 u279 u280 u281 u282 u283 u284 u285 u286 u287 u288 u289 u290 u291 u292 u293 u294 u295 u296 u297 u298 u299 u300 u301 u302 u303 u304 u305 u306 u307 u308 u309 u310 u311 u312 u313 u314 u315 u316 u317 u318 u319 u320 u321 u322 u323 u324 u325 u326 u327 u328 u329 u330 u331 u332 u333 u334 u335 u336 u337 u338 u339 u340 u341 u342 u343 u344 u345 u346 u347 u348 u349 u350 u351 u352 u353 u354 u355 u356 u357 u358 u359 u360 u361 u362 u363 u364 u365 u366 u367 u368 u369 u370 u371 u372 u373 u374 u375 u376 u377 u378 u379 u380 u381 u382 u383 u384 u385 u386 u387 u388 u389 u390 u391 u392 u393 u394 u395 u396 u397 u398 u399 u400 u401 u402 u403 u404 u405 u406 u407 u408 u409 u410 u411 u412 u413 u414 u415 u416 u417 u418 u419 u420 u421 u422 u423 u424 u425 u426 u427 u428 u429 u430 u431 u432 u433 u434 u435 u436 u437 u438 u439 u440 u441 u442 u443 u444 u445 u446 u447 u448 u449 u450 u451 u452 u453 u454 u455 u456 u459 u460 u461 u462 u463 u464 u465 u466 u467 u468 u469 u470 u471 u472 u473 u474 u475 u476 u477 u478 u479 u480 u481 u482 u483 u484 u485 u486 u487 u488 u489 u490 u491 hcut
         exact hrest_.out
end Go.Proofs.YtdgpkdgpmidaoaaDoor.PK
