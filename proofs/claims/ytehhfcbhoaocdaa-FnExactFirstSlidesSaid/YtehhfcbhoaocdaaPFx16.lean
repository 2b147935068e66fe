-- written by a program of this session's (wip/tools), over the kit's print
import Derived.Test.YtehhfcbhoaocdaaPFx0
import Derived.Test.YtehhfcbhoaocdaaPFx1
import Derived.Test.YtehhfcbhoaocdaaPFx2
import Derived.Test.YtehhfcbhoaocdaaPFx9
import Derived.Test.YtehhfcbhoaocdaaPFx13
import Derived.Test.YtehhfcbhoaocdaaPFx14
import Derived.Test.YtehhfcbhoaocdaaPFx15
-- squeezed
-- squeezed twice
namespace Go.Proofs.Ytehhfcbhoaocdaa.PF
open Go.RowKit Go.Proofs.YtehhfcbhoaocdaaW.PrintWords Go.Proofs.YtehhfcbhoaocdaaW.PrintLast Go.Proofs.YtehhfcbhoaocdaaW.PrintMore
attribute [local go_sem] max2_int min2_int max_two min_two max_three min_three max_four min_four   -- for this text's walks alone
set_option linter.unusedVariables false
set_option linter.unusedSimpArgs false

/-! ### laws_FnExactFirstSlides: function 4 -/
mutual
def laws_FnExactFirstSlides.j0 : Nat → ByteArray → ByteArray → List (S62) → Bool → List (S62) → Bool → Bool → List Int → List (S82) → List Int → List (S77) → Option (Bool)
 | 0, _, _, _, _, _, _, _, _, _, _, _ => none
 | k + 1, x1, x2, x8, x9, x11, x12, x54, x290000, x290001, x308000, x308001 => if x54 = true then (some false) else ((laws_toBolts.f k x290000 x290001).bind fun bt313 => ((laws_eqBolts.f k x308000 x308001 bt313.1 bt313.2).bind fun t319 => (if t319 = true then ((laws_markBolts.f k x308000 x308001 1).bind fun bt320 => (if bt320.1 < 0 then (laws_FnExactFirstSlides.j1 k x1 x2 x8 x9 x11 true x290000 x290001) else ((laws_eqSlideS.f k x11 x8).bind fun t323 => (if t323 = true then (laws_FnExactFirstSlides.j1 k x1 x2 x8 x9 x11 (x12 != x9) x290000 x290001) else (laws_FnExactFirstSlides.j1 k x1 x2 x8 x9 x11 true x290000 x290001))))) else (some false))))
def laws_FnExactFirstSlides.j1 : Nat → ByteArray → ByteArray → List (S62) → Bool → List (S62) → Bool → List Int → List (S82) → Option (Bool)
 | 0, _, _, _, _, _, _, _, _ => none
 | k + 1, x1, x2, x8, x9, x11, x75, x290000, x290001 => if x75 = true then (some false) else ((laws_markSlideS.f k x11 1).bind fun bt324 => ((laws_heldSlideS.f k bt324.2 1).bind fun t326 => (if t326 < 0 then (some false) else (if t326 = bt324.1 then ((laws_toBolts.f k x290000 x290001).bind fun bt327 => ((impl_FirstSlides.f k bt327.1 bt327.2 x1 x2).bind fun bt333 => ((laws_eqSlideS.f k bt333.1 x8).bind fun t337 => (if t337 = true then (laws_FnExactFirstSlides.j2 k bt324.2 bt324.1 (bt333.2 != x9)) else (laws_FnExactFirstSlides.j2 k bt324.2 bt324.1 true))))) else (some false)))))
def laws_FnExactFirstSlides.j2 : Nat → List (S62) → Int → Bool → Option (Bool)
 | 0, _, _, _ => none
 | k + 1, x11, x14, x103 => if x103 = true then (some false) else ((laws_heldSlideS.f k x11 1).bind fun t338 => (if t338 < 0 then (some false) else (if t338 = x14 then (some true) else (some false))))
end
def laws_FnExactFirstSlides.f (k : Nat) (l0_0 : List Int) (l0_1 : List (S82)) (a1 : ByteArray) (a2 : ByteArray) : Option (Bool) := if (a1.size : Int) > 1048576 then (some true) else (if (a2.size : Int) > 1048576 then (some true) else ((laws_szBolts.f l0_0 l0_1 1048576).bind fun t290 => (if t290 < 0 then (some true) else ((laws_toBolts.f k l0_0 l0_1).bind fun bt291 => ((spec_FirstSlides.f k bt291.1 bt291.2 a1 a2).bind fun bt297 => ((laws_toBolts.f k l0_0 l0_1).bind fun bt301 => ((impl_FirstSlides.f k bt301.1 bt301.2 a1 a2).bind fun bt308 => ((laws_eqSlideS.f k bt308.1 bt297.1).bind fun t312 => (if t312 = true then (laws_FnExactFirstSlides.j0 k a1 a2 bt297.1 bt297.2 bt308.1 bt308.2 (bt308.2 != bt297.2) l0_0 l0_1 bt301.1 bt301.2) else (laws_FnExactFirstSlides.j0 k a1 a2 bt297.1 bt297.2 bt308.1 bt308.2 true l0_0 l0_1 bt301.1 bt301.2))))))))))
theorem laws_FnExactFirstSlides.mono_l : ∀ k, (∀ y0 y1 y2 y3 y4 y5 y6 y7 y8 y9 y10, LeO (laws_FnExactFirstSlides.j0 k y0 y1 y2 y3 y4 y5 y6 y7 y8 y9 y10) (laws_FnExactFirstSlides.j0 (k + 1) y0 y1 y2 y3 y4 y5 y6 y7 y8 y9 y10)) ∧ (∀ y0 y1 y2 y3 y4 y5 y6 y7, LeO (laws_FnExactFirstSlides.j1 k y0 y1 y2 y3 y4 y5 y6 y7) (laws_FnExactFirstSlides.j1 (k + 1) y0 y1 y2 y3 y4 y5 y6 y7)) ∧ (∀ y0 y1 y2, LeO (laws_FnExactFirstSlides.j2 k y0 y1 y2) (laws_FnExactFirstSlides.j2 (k + 1) y0 y1 y2))
 | 0 => ⟨fun _ _ _ _ _ _ _ _ _ _ _ r h => by simp [laws_FnExactFirstSlides.j0] at h, fun _ _ _ _ _ _ _ _ r h => by simp [laws_FnExactFirstSlides.j1] at h, fun _ _ _ r h => by simp [laws_FnExactFirstSlides.j2] at h⟩
 | k + 1 => by
  obtain ⟨ih0, ih1, ih2⟩ := laws_FnExactFirstSlides.mono_l k
  refine ⟨?_, ?_, ?_⟩
  ·intro y0 y1 y2 y3 y4 y5 y6 y7 y8 y9 y10
   unfold laws_FnExactFirstSlides.j0
   repeat' first
   | (with_reducible exact ih0 _ _ _ _ _ _ _ _ _ _ _)
   | (with_reducible exact ih1 _ _ _ _ _ _ _ _)
   | (with_reducible exact ih2 _ _ _)
   | (with_reducible exact impl_FirstSlides.mono _ _ _ _ _)
   | (with_reducible exact laws_eqBolts.mono _ _ _ _ _)
   | (with_reducible exact laws_eqSlideS.mono _ _ _)
   | (with_reducible exact laws_heldSlideS.mono _ _ _)
   | (with_reducible exact laws_markBolts.mono _ _ _ _)
   | (with_reducible exact laws_markSlideS.mono _ _ _)
   | (with_reducible exact laws_toBolts.mono _ _ _)
   | (with_reducible exact spec_FirstSlides.mono _ _ _ _ _)
   | (with_reducible exact LeO.refl _)
   | (with_reducible exact LeO.none _)
   | (with_reducible refine LeO.ite ?_ ?_)
   | (with_reducible refine LeO.bind ?_ (fun _ => ?_))
   | exact ih0 _ _ _ _ _ _ _ _ _ _ _
   | exact ih1 _ _ _ _ _ _ _ _
   | exact ih2 _ _ _
   | exact impl_FirstSlides.mono _ _ _ _ _
   | exact laws_eqBolts.mono _ _ _ _ _
   | exact laws_eqSlideS.mono _ _ _
   | exact laws_heldSlideS.mono _ _ _
   | exact laws_markBolts.mono _ _ _ _
   | exact laws_markSlideS.mono _ _ _
   | exact laws_toBolts.mono _ _ _
   | exact spec_FirstSlides.mono _ _ _ _ _
   | exact LeO.none _
   | refine LeO.ite ?_ ?_
   | refine LeO.bind ?_ (fun _ => ?_)
  ·intro y0 y1 y2 y3 y4 y5 y6 y7
   unfold laws_FnExactFirstSlides.j1
   repeat' first
   | (with_reducible exact ih0 _ _ _ _ _ _ _ _ _ _ _)
   | (with_reducible exact ih1 _ _ _ _ _ _ _ _)
   | (with_reducible exact ih2 _ _ _)
   | (with_reducible exact impl_FirstSlides.mono _ _ _ _ _)
   | (with_reducible exact laws_eqBolts.mono _ _ _ _ _)
   | (with_reducible exact laws_eqSlideS.mono _ _ _)
   | (with_reducible exact laws_heldSlideS.mono _ _ _)
   | (with_reducible exact laws_markBolts.mono _ _ _ _)
   | (with_reducible exact laws_markSlideS.mono _ _ _)
   | (with_reducible exact laws_toBolts.mono _ _ _)
   | (with_reducible exact spec_FirstSlides.mono _ _ _ _ _)
   | (with_reducible exact LeO.refl _)
   | (with_reducible exact LeO.none _)
   | (with_reducible refine LeO.ite ?_ ?_)
   | (with_reducible refine LeO.bind ?_ (fun _ => ?_))
   | exact ih0 _ _ _ _ _ _ _ _ _ _ _
   | exact ih1 _ _ _ _ _ _ _ _
   | exact ih2 _ _ _
   | exact impl_FirstSlides.mono _ _ _ _ _
   | exact laws_eqBolts.mono _ _ _ _ _
   | exact laws_eqSlideS.mono _ _ _
   | exact laws_heldSlideS.mono _ _ _
   | exact laws_markBolts.mono _ _ _ _
   | exact laws_markSlideS.mono _ _ _
   | exact laws_toBolts.mono _ _ _
   | exact spec_FirstSlides.mono _ _ _ _ _
   | exact LeO.none _
   | refine LeO.ite ?_ ?_
   | refine LeO.bind ?_ (fun _ => ?_)
  ·intro y0 y1 y2
   unfold laws_FnExactFirstSlides.j2
   repeat' first
   | (with_reducible exact ih0 _ _ _ _ _ _ _ _ _ _ _)
   | (with_reducible exact ih1 _ _ _ _ _ _ _ _)
   | (with_reducible exact ih2 _ _ _)
   | (with_reducible exact impl_FirstSlides.mono _ _ _ _ _)
   | (with_reducible exact laws_eqBolts.mono _ _ _ _ _)
   | (with_reducible exact laws_eqSlideS.mono _ _ _)
   | (with_reducible exact laws_heldSlideS.mono _ _ _)
   | (with_reducible exact laws_markBolts.mono _ _ _ _)
   | (with_reducible exact laws_markSlideS.mono _ _ _)
   | (with_reducible exact laws_toBolts.mono _ _ _)
   | (with_reducible exact spec_FirstSlides.mono _ _ _ _ _)
   | (with_reducible exact LeO.refl _)
   | (with_reducible exact LeO.none _)
   | (with_reducible refine LeO.ite ?_ ?_)
   | (with_reducible refine LeO.bind ?_ (fun _ => ?_))
   | exact ih0 _ _ _ _ _ _ _ _ _ _ _
   | exact ih1 _ _ _ _ _ _ _ _
   | exact ih2 _ _ _
   | exact impl_FirstSlides.mono _ _ _ _ _
   | exact laws_eqBolts.mono _ _ _ _ _
   | exact laws_eqSlideS.mono _ _ _
   | exact laws_heldSlideS.mono _ _ _
   | exact laws_markBolts.mono _ _ _ _
   | exact laws_markSlideS.mono _ _ _
   | exact laws_toBolts.mono _ _ _
   | exact spec_FirstSlides.mono _ _ _ _ _
   | exact LeO.none _
   | refine LeO.ite ?_ ?_
   | refine LeO.bind ?_ (fun _ => ?_)
theorem laws_FnExactFirstSlides.mono : ∀ a0 a1 a2 a3 k, LeO (laws_FnExactFirstSlides.f k a0 a1 a2 a3) (laws_FnExactFirstSlides.f (k + 1) a0 a1 a2 a3) := by
 intro a0 a1 a2 a3 k
 obtain ⟨ih0, ih1, ih2⟩ := laws_FnExactFirstSlides.mono_l k
 unfold laws_FnExactFirstSlides.f
 repeat' first
   | (with_reducible exact ih0 _ _ _ _ _ _ _ _ _ _ _)
   | (with_reducible exact ih1 _ _ _ _ _ _ _ _)
   | (with_reducible exact ih2 _ _ _)
   | (with_reducible exact impl_FirstSlides.mono _ _ _ _ _)
   | (with_reducible exact laws_eqBolts.mono _ _ _ _ _)
   | (with_reducible exact laws_eqSlideS.mono _ _ _)
   | (with_reducible exact laws_heldSlideS.mono _ _ _)
   | (with_reducible exact laws_markBolts.mono _ _ _ _)
   | (with_reducible exact laws_markSlideS.mono _ _ _)
   | (with_reducible exact laws_toBolts.mono _ _ _)
   | (with_reducible exact spec_FirstSlides.mono _ _ _ _ _)
   | (with_reducible exact LeO.refl _)
   | (with_reducible exact LeO.none _)
   | (with_reducible refine LeO.ite ?_ ?_)
   | (with_reducible refine LeO.bind ?_ (fun _ => ?_))
   | exact ih0 _ _ _ _ _ _ _ _ _ _ _
   | exact ih1 _ _ _ _ _ _ _ _
   | exact ih2 _ _ _
   | exact impl_FirstSlides.mono _ _ _ _ _
   | exact laws_eqBolts.mono _ _ _ _ _
   | exact laws_eqSlideS.mono _ _ _
   | exact laws_heldSlideS.mono _ _ _
   | exact laws_markBolts.mono _ _ _ _
   | exact laws_markSlideS.mono _ _ _
   | exact laws_toBolts.mono _ _ _
   | exact spec_FirstSlides.mono _ _ _ _ _
   | exact LeO.none _
   | refine LeO.ite ?_ ?_
   | refine LeO.bind ?_ (fun _ => ?_)
set_option maxHeartbeats 8000000 in
set_option maxRecDepth 100000 in
theorem laws_FnExactFirstSlides.calls (k : Nat) (A0_0 : Option Addr) (c0_0 : Nat) (l0_0 : List Int) (A0_1 : Option Addr) (c0_1 : Nat) (l0_1 : List (S82)) (a1 : ByteArray) (a2 : ByteArray) (r : Bool) (w : World) (hr0_0 : Kd.C (Kd.int .i64) w A0_0 l0_0.length l0_0) (hc0_0 : l0_0.length ≤ c0_0) (hr0_1 : Kd.C k82 w A0_1 l0_1.length l0_1) (hc0_1 : l0_1.length ≤ c0_1) (h : laws_FnExactFirstSlides.f k l0_0 l0_1 a1 a2 = some r) :
  Calls Try.prog 4 #[.agg #[.slice A0_0 l0_0.length c0_0, .slice A0_1 l0_1.length c0_1], .string a1, .string a2] w fun e w' => e = .returned (.bool r) ∧ Below w.heap.size w w' := by
 have hu25 := Try.underlying25
 have hu31 := Try.underlying31
 have HR0_0 := aM hr0_0
 have HC0_0 := aM hc0_0
 clear hr0_0 hc0_0
 have HR0_1 := aM hr0_1
 have HC0_1 := aM hc0_1
 clear hr0_1 hc0_1
 have HB := aM (Below.refl w.heap.size w)
 have H : (if (a1.size : Int) > 1048576 then (some true) else (if (a2.size : Int) > 1048576 then (some true) else ((laws_szBolts.f l0_0 l0_1 1048576).bind fun t290 => (if t290 < 0 then (some true) else ((laws_toBolts.f k l0_0 l0_1).bind fun bt291 => ((spec_FirstSlides.f k bt291.1 bt291.2 a1 a2).bind fun bt297 => ((laws_toBolts.f k l0_0 l0_1).bind fun bt301 => ((impl_FirstSlides.f k bt301.1 bt301.2 a1 a2).bind fun bt308 => ((laws_eqSlideS.f k bt308.1 bt297.1).bind fun t312 => (if t312 = true then (laws_FnExactFirstSlides.j0 k a1 a2 bt297.1 bt297.2 bt308.1 bt308.2 (bt308.2 != bt297.2) l0_0 l0_1 bt301.1 bt301.2) else (laws_FnExactFirstSlides.j0 k a1 a2 bt297.1 bt297.2 bt308.1 bt308.2 true l0_0 l0_1 bt301.1 bt301.2))))))))))) = some r := h
 clear h
 by_cases c4 : (a1.size : Int) > 1048576
 ·rw [if_pos c4] at H
  have c4b0 : decide (1048576 < (a1.size : Int)) = true := decide_eq_true c4
  have c4b1 : decide (1048576 < a1.size) = true := decide_eq_true (by omega)
  clear c4
  obtain rfl := Option.some.inj H
  go_enter Try.func4, Try.ntmps4
  go_wp2_with (first | ((with_reducible refine gate_dst (N := 3) rfl ?_); refine box_event ?hg (N := 3) ?hd (cs := #[.slice A0_0 l0_0.length c0_0, .slice A0_1 l0_1.length c0_1]) (t := 25) ?hr ?_; (case hd => rfl); (case hg => rfl); (case hr => go_simp); intro gb289 hg w5 hbox hb; have BK289 := aM (hbox); have GW289 := aM ((by rw [hg]; exact (below_size HB.out) : w.heap.size ≤ gb289)); replace HB := aM (below_step HB.out hb); have GE289 := GW289; clear hb hbox hg))
  go_ret
  exact ⟨rfl, HB.out⟩
 ·rw [if_neg c4] at H
  have c4b0 : decide (1048576 < (a1.size : Int)) = false := decide_eq_false c4
  have c4b1 : decide (1048576 < a1.size) = false := decide_eq_false (by omega)
  clear c4
  by_cases c6 : (a2.size : Int) > 1048576
  ·rw [if_pos c6] at H
   have c6b0 : decide (1048576 < (a2.size : Int)) = true := decide_eq_true c6
   have c6b1 : decide (1048576 < a2.size) = true := decide_eq_true (by omega)
   clear c6
   obtain rfl := Option.some.inj H
   go_enter Try.func4, Try.ntmps4
   go_wp2_with (first | ((with_reducible refine gate_dst (N := 3) rfl ?_); refine box_event ?hg (N := 3) ?hd (cs := #[.slice A0_0 l0_0.length c0_0, .slice A0_1 l0_1.length c0_1]) (t := 25) ?hr ?_; (case hd => rfl); (case hg => rfl); (case hr => go_simp); intro gb289 hg w7 hbox hb; have BK289 := aM (hbox); have GW289 := aM ((by rw [hg]; exact (below_size HB.out) : w.heap.size ≤ gb289)); replace HB := aM (below_step HB.out hb); have GE289 := GW289; clear hb hbox hg))
   go_ret
   exact ⟨rfl, HB.out⟩
  ·rw [if_neg c6] at H
   have c6b0 : decide (1048576 < (a2.size : Int)) = false := decide_eq_false c6
   have c6b1 : decide (1048576 < a2.size) = false := decide_eq_false (by omega)
   clear c6
   replace H := Option.bind_eq_some_iff.mp H
   obtain ⟨t290, A80, H⟩ := H
   replace H : (if t290 < 0 then (some true) else ((laws_toBolts.f k l0_0 l0_1).bind fun bt291 => ((spec_FirstSlides.f k bt291.1 bt291.2 a1 a2).bind fun bt297 => ((laws_toBolts.f k l0_0 l0_1).bind fun bt301 => ((impl_FirstSlides.f k bt301.1 bt301.2 a1 a2).bind fun bt308 => ((laws_eqSlideS.f k bt308.1 bt297.1).bind fun t312 => (if t312 = true then (laws_FnExactFirstSlides.j0 k a1 a2 bt297.1 bt297.2 bt308.1 bt308.2 (bt308.2 != bt297.2) l0_0 l0_1 bt301.1 bt301.2) else (laws_FnExactFirstSlides.j0 k a1 a2 bt297.1 bt297.2 bt308.1 bt308.2 true l0_0 l0_1 bt301.1 bt301.2)))))))) = some r := H
   have A8 := aM A80
   clear A80
   by_cases c9 : t290 < 0
   ·rw [if_pos c9] at H
    have c9b0 : decide (t290 < 0) = true := decide_eq_true c9
    clear c9
    obtain rfl := Option.some.inj H
    go_enter Try.func4, Try.ntmps4
    go_wp2_with (first | ((with_reducible refine gate_dst (N := 3) rfl ?_); refine box_event ?hg (N := 3) ?hd (cs := #[.slice A0_0 l0_0.length c0_0, .slice A0_1 l0_1.length c0_1]) (t := 25) ?hr ?_; (case hd => rfl); (case hg => rfl); (case hr => go_simp); intro gb289 hg w10 hbox hb; have BK289 := aM (hbox); have GW289 := aM ((by rw [hg]; exact (below_size HB.out) : w.heap.size ≤ gb289)); replace HB := aM (below_step HB.out hb); have GE289 := GW289; clear hb hbox hg; have hcz11_0 : w10.cell? ⟨gb289, 0, none⟩ = some (.slice A0_0 l0_0.length c0_0) := (blk_cell BK289.out 0).trans rfl; have hcz11_1 : w10.cell? ⟨gb289, 1, none⟩ = some (.slice A0_1 l0_1.length c0_1) := (blk_cell BK289.out 1).trans rfl; have hfz11_0 := blk_frozen BK289.out 0; have hfz11_1 := blk_frozen BK289.out 1) | ((with_reducible refine gate_callee (f := 5) rfl ?_); refine goesL_ (some 26) rfl rfl Try.func5 (by kernel_rfl) rfl #[.agg #[.slice A0_0 l0_0.length c0_0, .slice A0_1 l0_1.length c0_1], .int .i64 1048576] rfl (by simp only [mA, mB, mC]; all_goals rfl) ?_; (with_reducible refine (laws_szBolts.calls _ _ l0_0 _ _ l0_1 1048576 t290 _ ?side1 ?side2 ?side3 ?side4 A8.out).mono ?_); (case side1 => exact Kd.C_below HR0_0.out HB.out); (case side2 => exact HC0_0.out); (case side3 => exact Kd.C_below HR0_1.out HB.out); (case side4 => exact HC0_1.out); rintro e w12 ⟨rfl, hb⟩; refine ⟨_, rfl, ?_⟩; replace BK289 := aM (blk_below (g := gb289) (o := .cells #[.slice A0_0 l0_0.length c0_0, .slice A0_1 l0_1.length c0_1] 25 (0, 0)) BK289.out hb); replace HB := aM (below_step HB.out hb); (try clear hb)))
    go_ret
    exact ⟨rfl, HB.out⟩
   ·rw [if_neg c9] at H
    have c9b0 : decide (t290 < 0) = false := decide_eq_false c9
    clear c9
    replace H := Option.bind_eq_some_iff.mp H
    obtain ⟨⟨t291, t294⟩, A130, H⟩ := H
    replace H : ((spec_FirstSlides.f k t291 t294 a1 a2).bind fun bt297 => ((laws_toBolts.f k l0_0 l0_1).bind fun bt301 => ((impl_FirstSlides.f k bt301.1 bt301.2 a1 a2).bind fun bt308 => ((laws_eqSlideS.f k bt308.1 bt297.1).bind fun t312 => (if t312 = true then (laws_FnExactFirstSlides.j0 k a1 a2 bt297.1 bt297.2 bt308.1 bt308.2 (bt308.2 != bt297.2) l0_0 l0_1 bt301.1 bt301.2) else (laws_FnExactFirstSlides.j0 k a1 a2 bt297.1 bt297.2 bt308.1 bt308.2 true l0_0 l0_1 bt301.1 bt301.2)))))) = some r := H
    have A13 := aM A130
    clear A130
    replace H := Option.bind_eq_some_iff.mp H
    obtain ⟨⟨t297, t300⟩, A140, H⟩ := H
    replace H : ((laws_toBolts.f k l0_0 l0_1).bind fun bt301 => ((impl_FirstSlides.f k bt301.1 bt301.2 a1 a2).bind fun bt308 => ((laws_eqSlideS.f k bt308.1 t297).bind fun t312 => (if t312 = true then (laws_FnExactFirstSlides.j0 k a1 a2 t297 t300 bt308.1 bt308.2 (bt308.2 != t300) l0_0 l0_1 bt301.1 bt301.2) else (laws_FnExactFirstSlides.j0 k a1 a2 t297 t300 bt308.1 bt308.2 true l0_0 l0_1 bt301.1 bt301.2))))) = some r := H
    have A14 := aM A140
    clear A140
    replace H := Option.bind_eq_some_iff.mp H
    obtain ⟨⟨t301, t304⟩, A150, H⟩ := H
    replace H : ((impl_FirstSlides.f k t301 t304 a1 a2).bind fun bt308 => ((laws_eqSlideS.f k bt308.1 t297).bind fun t312 => (if t312 = true then (laws_FnExactFirstSlides.j0 k a1 a2 t297 t300 bt308.1 bt308.2 (bt308.2 != t300) l0_0 l0_1 t301 t304) else (laws_FnExactFirstSlides.j0 k a1 a2 t297 t300 bt308.1 bt308.2 true l0_0 l0_1 t301 t304)))) = some r := H
    have A15 := aM A150
    clear A150
    replace H := Option.bind_eq_some_iff.mp H
    obtain ⟨⟨t308, t311⟩, A160, H⟩ := H
    replace H : ((laws_eqSlideS.f k t308 t297).bind fun t312 => (if t312 = true then (laws_FnExactFirstSlides.j0 k a1 a2 t297 t300 t308 t311 (t311 != t300) l0_0 l0_1 t301 t304) else (laws_FnExactFirstSlides.j0 k a1 a2 t297 t300 t308 t311 true l0_0 l0_1 t301 t304))) = some r := H
    have A16 := aM A160
    clear A160
    have HC17 := aM H
    clear H
    go_enter Try.func4, Try.ntmps4
    go_upto_region 12 with (first | ((with_reducible refine gate_dst (N := 3) rfl ?_); refine box_event ?hg (N := 3) ?hd (cs := #[.slice A0_0 l0_0.length c0_0, .slice A0_1 l0_1.length c0_1]) (t := 25) ?hr ?_; (case hd => rfl); (case hg => rfl); (case hr => go_simp); intro gb289 hg w18 hbox hb; have BK289 := aM (hbox); have GW289 := aM ((by rw [hg]; exact (below_size (by repeat first | exact HB.out | apply bA | apply bN | apply bD)) : w.heap.size ≤ gb289)); replace HB := aM (below_step (by repeat first | exact HB.out | apply bA | apply bN | apply bD) hb); have GE289 := GW289; clear hb hbox hg; have hcz19_0 : w18.cell? ⟨gb289, 0, none⟩ = some (.slice A0_0 l0_0.length c0_0) := (blk_cell BK289.out 0).trans rfl; have hcz19_1 : w18.cell? ⟨gb289, 1, none⟩ = some (.slice A0_1 l0_1.length c0_1) := (blk_cell BK289.out 1).trans rfl; have hfz19_0 := blk_frozen BK289.out 0; have hfz19_1 := blk_frozen BK289.out 1) | ((with_reducible refine gate_callee (f := 5) rfl ?_); refine goesL_ (some 26) rfl rfl Try.func5 (by kernel_rfl) rfl #[.agg #[.slice A0_0 l0_0.length c0_0, .slice A0_1 l0_1.length c0_1], .int .i64 1048576] rfl (by simp only [mA, mB, mC]; all_goals rfl) ?_; (with_reducible refine (laws_szBolts.calls _ _ l0_0 _ _ l0_1 1048576 t290 _ ?side1 ?side2 ?side3 ?side4 A8.out).mono ?_); (case side1 => repeat first | exact Kd.C_below HR0_0.out HB.out | refine cA ?_ _ | refine cN ?_ _ | refine cD ?_); (case side2 => exact HC0_0.out); (case side3 => repeat first | exact Kd.C_below HR0_1.out HB.out | refine cA ?_ _ | refine cN ?_ _ | refine cD ?_); (case side4 => exact HC0_1.out); rintro e w20 ⟨rfl, hb⟩; refine ⟨_, rfl, ?_⟩; replace BK289 := aM (blk_below (g := gb289) (o := .cells #[.slice A0_0 l0_0.length c0_0, .slice A0_1 l0_1.length c0_1] 25 (0, 0)) (by repeat first | exact BK289.out | refine kN ?_ _ | refine kD ?_ | refine kA ?_ _) hb); replace HB := aM (below_step (by repeat first | exact HB.out | apply bA | apply bN | apply bD | refine bS ?_ GE289.out) hb); (try clear hb); have hcz21_0 : w20.cell? ⟨gb289, 0, none⟩ = some (.slice A0_0 l0_0.length c0_0) := (blk_cell BK289.out 0).trans rfl; have hcz21_1 : w20.cell? ⟨gb289, 1, none⟩ = some (.slice A0_1 l0_1.length c0_1) := (blk_cell BK289.out 1).trans rfl; have hfz21_0 := blk_frozen BK289.out 0; have hfz21_1 := blk_frozen BK289.out 1) | ((with_reducible refine gate_callee (f := 7) rfl ?_); refine goesL_ (some 31) rfl rfl Try.func7 (by kernel_rfl) rfl #[.agg #[.slice A0_0 l0_0.length c0_0, .slice A0_1 l0_1.length c0_1]] rfl (by simp only [mA, mB, mC]; all_goals rfl) ?_; (with_reducible refine (laws_toBolts.calls k _ _ l0_0 _ _ l0_1 t291 t294 _ ?side1 ?side2 ?side3 ?side4 A13.out).mono ?_); (case side1 => repeat first | exact Kd.C_below HR0_0.out HB.out | refine cA ?_ _ | refine cN ?_ _ | refine cD ?_); (case side2 => exact HC0_0.out); (case side3 => repeat first | exact Kd.C_below HR0_1.out HB.out | refine cA ?_ _ | refine cN ?_ _ | refine cD ?_); (case side4 => exact HC0_1.out); rintro e w22 ⟨v292, v295, rfl, ho0, ho1, hb⟩; refine ⟨_, rfl, ?_⟩; have HO293 := aM (Kd.R_lower ho0 (below_size (by repeat first | exact HB.out | apply bA | apply bN | apply bD | refine bS ?_ GE289.out))); have HO296 := aM (Kd.R_lower ho1 (below_size (by repeat first | exact HB.out | apply bA | apply bN | apply bD | refine bS ?_ GE289.out))); replace BK289 := aM (blk_below (g := gb289) (o := .cells #[.slice A0_0 l0_0.length c0_0, .slice A0_1 l0_1.length c0_1] 25 (0, 0)) (by repeat first | exact BK289.out | refine kN ?_ _ | refine kD ?_ | refine kA ?_ _) hb); replace HB := aM (below_step (by repeat first | exact HB.out | apply bA | apply bN | apply bD | refine bS ?_ GE289.out) hb); (try clear hb); (try clear ho0); (try clear ho1); obtain ⟨Ao23, co23, eo23⟩ := Kd.R_slice HO293.out; subst eo23; obtain ⟨Ao24, co24, eo24⟩ := Kd.R_slice HO296.out; subst eo24) | ((with_reducible refine gate_callee (f := 10) rfl ?_); refine goesL_ (some 34) rfl rfl Try.func10 (by kernel_rfl) rfl #[.agg #[.slice Ao23 t291.length co23, .slice Ao24 t294.length co24], .string a1, .string a2] rfl (by simp only [mA, mB, mC]; all_goals rfl) ?_; (with_reducible refine (spec_FirstSlides.calls k _ _ t291 _ _ t294 a1 a2 t297 t300 _ ?side1 ?side2 ?side3 ?side4 A14.out).mono ?_); (case side1 => repeat (first | exact (Kd.R_reads' HO293.out).2.2 | (with_reducible refine cA ?_ _) | (with_reducible refine cN ?_ _) | (with_reducible refine cD ?_))); (case side2 => exact (Kd.R_reads' HO293.out).2.1); (case side3 => repeat (first | exact (Kd.R_reads' HO296.out).2.2 | (with_reducible refine cA ?_ _) | (with_reducible refine cN ?_ _) | (with_reducible refine cD ?_))); (case side4 => exact (Kd.R_reads' HO296.out).2.1); rintro e w25 ⟨v298, rfl, ho0, hb⟩; refine ⟨_, rfl, ?_⟩; replace HO293 := aM (Kd.R_below (by repeat first | exact HO293.out | apply rA | apply rN | apply rD) hb); replace HO296 := aM (Kd.R_below (by repeat first | exact HO296.out | apply rA | apply rN | apply rD) hb); have HO299 := aM (Kd.R_lower ho0 (below_size (by repeat first | exact HB.out | apply bA | apply bN | apply bD | refine bS ?_ GE289.out))); replace BK289 := aM (blk_below (g := gb289) (o := .cells #[.slice A0_0 l0_0.length c0_0, .slice A0_1 l0_1.length c0_1] 25 (0, 0)) (by repeat first | exact BK289.out | refine kN ?_ _ | refine kD ?_ | refine kA ?_ _) hb); replace HB := aM (below_step (by repeat first | exact HB.out | apply bA | apply bN | apply bD | refine bS ?_ GE289.out) hb); (try clear hb); (try clear ho0); have hcz26_0 : w25.cell? ⟨gb289, 0, none⟩ = some (.slice A0_0 l0_0.length c0_0) := (blk_cell BK289.out 0).trans rfl; have hcz26_1 : w25.cell? ⟨gb289, 1, none⟩ = some (.slice A0_1 l0_1.length c0_1) := (blk_cell BK289.out 1).trans rfl; have hfz26_0 := blk_frozen BK289.out 0; have hfz26_1 := blk_frozen BK289.out 1) | ((with_reducible refine gate_callee (f := 7) rfl ?_); refine goesL_ (some 38) rfl rfl Try.func7 (by kernel_rfl) rfl #[.agg #[.slice A0_0 l0_0.length c0_0, .slice A0_1 l0_1.length c0_1]] rfl (by simp only [mA, mB, mC]; all_goals rfl) ?_; (with_reducible refine (laws_toBolts.calls k _ _ l0_0 _ _ l0_1 t301 t304 _ ?side1 ?side2 ?side3 ?side4 A15.out).mono ?_); (case side1 => repeat first | exact Kd.C_below HR0_0.out HB.out | refine cA ?_ _ | refine cN ?_ _ | refine cD ?_); (case side2 => exact HC0_0.out); (case side3 => repeat first | exact Kd.C_below HR0_1.out HB.out | refine cA ?_ _ | refine cN ?_ _ | refine cD ?_); (case side4 => exact HC0_1.out); rintro e w27 ⟨v302, v305, rfl, ho0, ho1, hb⟩; refine ⟨_, rfl, ?_⟩; replace HO299 := aM (Kd.R_below (by repeat first | exact HO299.out | apply rA | apply rN | apply rD) hb); have HO303 := aM (Kd.R_lower (Kd.R_new' ho0 (Kd.R_lt (by repeat first | exact HO293.out | apply rA | apply rN | apply rD))) (below_size (by repeat first | exact HB.out | apply bA | apply bN | apply bD | refine bS ?_ GE289.out))); replace HO293 := aM (Kd.R_elder' (by repeat first | exact HO293.out | apply rA | apply rN | apply rD) (Kd.R_base ho0) hb); have HO306 := aM (Kd.R_lower (Kd.R_new' ho1 (Kd.R_lt (by repeat first | exact HO296.out | apply rA | apply rN | apply rD))) (below_size (by repeat first | exact HB.out | apply bA | apply bN | apply bD | refine bS ?_ GE289.out))); replace HO296 := aM (Kd.R_elder' (by repeat first | exact HO296.out | apply rA | apply rN | apply rD) (Kd.R_base ho1) hb); replace BK289 := aM (blk_below (g := gb289) (o := .cells #[.slice A0_0 l0_0.length c0_0, .slice A0_1 l0_1.length c0_1] 25 (0, 0)) (by repeat first | exact BK289.out | refine kN ?_ _ | refine kD ?_ | refine kA ?_ _) hb); replace HB := aM (below_step (by repeat first | exact HB.out | apply bA | apply bN | apply bD | refine bS ?_ GE289.out) hb); (try clear hb); (try clear ho0); (try clear ho1)) | ((with_reducible refine gate_dst (N := 10) rfl ?_); refine box_event ?hg (N := 10) ?hd (cs := #[.slice none 0 0, .slice none 0 0]) (t := 31) ?hr ?_; (case hd => rfl); (case hg => rfl); (case hr => go_simp); intro gb307 hg w28 hbox hb; replace HO293 := aM (Kd.R_below (by repeat first | exact HO293.out | apply rA | apply rN | apply rD) hb); replace HO296 := aM (Kd.R_below (by repeat first | exact HO296.out | apply rA | apply rN | apply rD) hb); replace HO299 := aM (Kd.R_below (by repeat first | exact HO299.out | apply rA | apply rN | apply rD) hb); replace HO303 := aM (Kd.R_below (by repeat first | exact HO303.out | apply rA | apply rN | apply rD) hb); replace HO306 := aM (Kd.R_below (by repeat first | exact HO306.out | apply rA | apply rN | apply rD) hb); have BK307 := aM (hbox); have GW307 := aM ((by rw [hg]; exact (below_size (by repeat first | exact HB.out | apply bA | apply bN | apply bD | refine bS ?_ GE289.out)) : w.heap.size ≤ gb307)); replace HB := aM (below_step (by repeat first | exact HB.out | apply bA | apply bN | apply bD | refine bS ?_ GE289.out) hb); have NB289_307 := aM ((by rw [hg]; exact Nat.ne_of_lt (blk_lt (g := gb289) (o := .cells #[.slice A0_0 l0_0.length c0_0, .slice A0_1 l0_1.length c0_1] 25 (0, 0)) (by repeat first | exact BK289.out | refine kN ?_ _ | refine kD ?_ | refine kA ?_ _)) : gb289 ≠ gb307)); have NB307_289 := aM ((by rw [hg]; exact Nat.ne_of_gt (blk_lt (g := gb289) (o := .cells #[.slice A0_0 l0_0.length c0_0, .slice A0_1 l0_1.length c0_1] 25 (0, 0)) (by repeat first | exact BK289.out | refine kN ?_ _ | refine kD ?_ | refine kA ?_ _)) : gb307 ≠ gb289)); replace BK289 := aM (blk_below (g := gb289) (o := .cells #[.slice A0_0 l0_0.length c0_0, .slice A0_1 l0_1.length c0_1] 25 (0, 0)) (by repeat first | exact BK289.out | refine kN ?_ _ | refine kD ?_ | refine kA ?_ _) hb); have GE307 := GW307; clear hb hbox hg; obtain ⟨Ao29, co29, eo29⟩ := Kd.R_slice HO303.out; subst eo29; have hnb30 := NB307_289.out; have hnc30 := NB289_307.out; have hcz31_0 : w28.cell? ⟨gb307, 0, none⟩ = some (.slice none 0 0) := (blk_cell BK307.out 0).trans rfl; have hcz31_1 : w28.cell? ⟨gb307, 1, none⟩ = some (.slice none 0 0) := (blk_cell BK307.out 1).trans rfl; have hfz31_0 := blk_frozen BK307.out 0; have hfz31_1 := blk_frozen BK307.out 1; obtain ⟨Ao32, co32, eo32⟩ := Kd.R_slice HO306.out; subst eo32) | ((with_reducible refine gate_callee (f := 11) rfl ?_); refine goesL_ (some 43) rfl rfl Try.func11 (by kernel_rfl) rfl #[.agg #[.slice Ao29 t301.length co29, .slice Ao32 t304.length co32], .string a1, .string a2] rfl (by simp only [mA, mB, mC]; all_goals rfl) ?_; (with_reducible refine (impl_FirstSlides.calls k _ _ t301 _ _ t304 a1 a2 t308 t311 _ ?side1 ?side2 ?side3 ?side4 A16.out).mono ?_); (case side1 => refine (Kd.R_reads' (e := 3) (base := w.heap.size) (ok := fun k_ => (True ∧ some k_ ≠ (.slice Ao23 t291.length co23 : Value).ownBlock)) (n := t301.length) (c := co29) ?_).2.2; exact (by (with_reducible repeat (first | apply rA | apply rN | apply rD)); exact (Kd.R_mono (Kd.R_far (p := ⟨gb307, 1, none⟩) (Kd.R_far (p := ⟨gb307, 0, none⟩) (Kd.R_types HO303.out BK307.out (by decide)) (fun _ hk => hk.2) (.slice Ao29 t301.length co29)) (fun _ hk => hk.2) (.slice Ao32 t304.length co32)) (fun _ h_ => h_.1)))); (case side2 => exact (Kd.R_reads' HO303.out).2.1); (case side3 => refine (Kd.R_reads' (e := 77) (base := w.heap.size) (ok := fun k_ => (True ∧ some k_ ≠ (.slice Ao24 t294.length co24 : Value).ownBlock)) (n := t304.length) (c := co32) ?_).2.2; exact (by (with_reducible repeat (first | apply rA | apply rN | apply rD)); exact (Kd.R_mono (Kd.R_far (p := ⟨gb307, 1, none⟩) (Kd.R_far (p := ⟨gb307, 0, none⟩) (Kd.R_types HO306.out BK307.out (by decide)) (fun _ hk => hk.2) (.slice Ao29 t301.length co29)) (fun _ hk => hk.2) (.slice Ao32 t304.length co32)) (fun _ h_ => h_.1)))); (case side4 => exact (Kd.R_reads' HO306.out).2.1); rintro e w33 ⟨v309, rfl, ho0, hb⟩; refine ⟨_, rfl, ?_⟩; replace HO293 := aM (Kd.R_below (by (with_reducible repeat (first | apply rA | apply rN | apply rD)); exact (Kd.R_mono (Kd.R_far (p := ⟨gb307, 1, none⟩) (Kd.R_far (p := ⟨gb307, 0, none⟩) (Kd.R_types HO293.out BK307.out (by decide)) (fun _ hk => hk.2) (.slice Ao29 t301.length co29)) (fun _ hk => hk.2) (.slice Ao32 t304.length co32)) (fun _ h_ => h_.1))) hb); replace HO296 := aM (Kd.R_below (by (with_reducible repeat (first | apply rA | apply rN | apply rD)); exact (Kd.R_mono (Kd.R_far (p := ⟨gb307, 1, none⟩) (Kd.R_far (p := ⟨gb307, 0, none⟩) (Kd.R_types HO296.out BK307.out (by decide)) (fun _ hk => hk.2) (.slice Ao29 t301.length co29)) (fun _ hk => hk.2) (.slice Ao32 t304.length co32)) (fun _ h_ => h_.1))) hb); replace HO303 := aM (Kd.R_below (by (with_reducible repeat (first | apply rA | apply rN | apply rD)); exact (Kd.R_mono (Kd.R_far (p := ⟨gb307, 1, none⟩) (Kd.R_far (p := ⟨gb307, 0, none⟩) (Kd.R_types HO303.out BK307.out (by decide)) (fun _ hk => hk.2) (.slice Ao29 t301.length co29)) (fun _ hk => hk.2) (.slice Ao32 t304.length co32)) (fun _ h_ => h_.1))) hb); replace HO306 := aM (Kd.R_below (by (with_reducible repeat (first | apply rA | apply rN | apply rD)); exact (Kd.R_mono (Kd.R_far (p := ⟨gb307, 1, none⟩) (Kd.R_far (p := ⟨gb307, 0, none⟩) (Kd.R_types HO306.out BK307.out (by decide)) (fun _ hk => hk.2) (.slice Ao29 t301.length co29)) (fun _ hk => hk.2) (.slice Ao32 t304.length co32)) (fun _ h_ => h_.1))) hb); have HO310 := aM (Kd.R_lower (Kd.R_new' ho0 (Kd.R_lt (by (with_reducible repeat (first | apply rA | apply rN | apply rD)); exact (Kd.R_mono (Kd.R_far (p := ⟨gb307, 1, none⟩) (Kd.R_far (p := ⟨gb307, 0, none⟩) (Kd.R_types HO299.out BK307.out (by decide)) (fun _ hk => hk.2) (.slice Ao29 t301.length co29)) (fun _ hk => hk.2) (.slice Ao32 t304.length co32)) (fun _ h_ => h_.1))))) (below_size (by repeat first | exact HB.out | apply bA | apply bN | apply bD | refine bS ?_ GE289.out | refine bS ?_ GE307.out))); replace HO299 := aM (Kd.R_elder' (by (with_reducible repeat (first | apply rA | apply rN | apply rD)); exact (Kd.R_mono (Kd.R_far (p := ⟨gb307, 1, none⟩) (Kd.R_far (p := ⟨gb307, 0, none⟩) (Kd.R_types HO299.out BK307.out (by decide)) (fun _ hk => hk.2) (.slice Ao29 t301.length co29)) (fun _ hk => hk.2) (.slice Ao32 t304.length co32)) (fun _ h_ => h_.1))) (Kd.R_base ho0) hb); replace BK289 := aM (blk_below (g := gb289) (o := .cells #[.slice A0_0 l0_0.length c0_0, .slice A0_1 l0_1.length c0_1] 25 (0, 0)) (by (with_reducible repeat (first | refine kN ?_ _ | refine kD ?_ | refine kA ?_ _)); refine blk_far ?_ NB289_307.out _; (with_reducible repeat (first | refine kN ?_ _ | refine kD ?_ | refine kA ?_ _)); refine blk_far ?_ NB289_307.out _; (with_reducible repeat (first | refine kN ?_ _ | refine kD ?_ | refine kA ?_ _)); exact BK289.out) hb); replace BK307 := aM (blk_below (g := gb307) (o := .cells #[.slice Ao29 t301.length co29, .slice Ao32 t304.length co32] 31 (0, 0)) (by (with_reducible repeat (first | refine kN ?_ _ | refine kD ?_ | refine kA ?_ _)); refine blk_put (cs := #[.slice Ao29 t301.length co29, .slice none 0 0]) ?_ 1 _ rfl; (with_reducible repeat (first | refine kN ?_ _ | refine kD ?_ | refine kA ?_ _)); refine blk_put (cs := #[.slice none 0 0, .slice none 0 0]) ?_ 0 _ rfl; (with_reducible repeat (first | refine kN ?_ _ | refine kD ?_ | refine kA ?_ _)); exact BK307.out) hb); replace HB := aM (below_step (by repeat first | exact HB.out | apply bA | apply bN | apply bD | refine bS ?_ GE289.out | refine bS ?_ GE307.out) hb); (try clear hb); (try clear ho0)))
    (try simp only [Act.put, sA, sB, sC])
    go_cut [54] (fun v54 wc => ∃ (kq : Nat) (x54_16 : Bool), v54 = .bool x54_16 ∧ Aside0 (laws_FnExactFirstSlides.j0 kq a1 a2 t297 t300 t308 t311 x54_16 l0_0 l0_1 t301 t304 = some r) ∧ Aside0 (kq ≤ k) ∧ Aside0 (Kd.R k62 62 wc w.heap.size (fun k_ => some k_ ≠ (v309 : Value).ownBlock) v298 t297) ∧ Aside0 (Kd.R k62 62 wc w.heap.size (fun k_ => some k_ ≠ (v298 : Value).ownBlock) v309 t308) ∧ Aside0 (Kd.R (Kd.int .i64) 3 wc w.heap.size (fun _ => True) (.slice Ao29 t301.length co29) t301) ∧ Aside0 (Kd.R k77 77 wc w.heap.size (fun _ => True) (.slice Ao32 t304.length co32) t304) ∧ Aside0 (wc.heap[gb289]? = some (.cells #[(.slice A0_0 l0_0.length c0_0), (.slice A0_1 l0_1.length c0_1)] 25 (0, 0))) ∧ Aside0 (wc.heap[gb307]? = some (.cells #[(.slice Ao29 t301.length co29), (.slice Ao32 t304.length co32)] 31 (0, 0))) ∧ Aside0 (Below w.heap.size w wc))
    case first =>
     have H := HC17.out
     clear HC17
     replace H := Option.bind_eq_some_iff.mp H
     obtain ⟨t312, A340, H⟩ := H
     replace H : (if t312 = true then (laws_FnExactFirstSlides.j0 k a1 a2 t297 t300 t308 t311 (t311 != t300) l0_0 l0_1 t301 t304) else (laws_FnExactFirstSlides.j0 k a1 a2 t297 t300 t308 t311 true l0_0 l0_1 t301 t304)) = some r := H
     have A34 := aM A340
     clear A340
     by_cases c35 : t312 = true
     ·subst c35
      have H1 : (laws_FnExactFirstSlides.j0 k a1 a2 t297 t300 t308 t311 (t311 != t300) l0_0 l0_1 t301 t304) = some r := by rw [if_pos rfl] at H; exact H
      clear H; have H := H1; clear H1
      have H' := aM H
      clear H
      obtain ⟨Ao36, co36, eo36⟩ := Kd.R_slice HO310.out
      subst eo36
      obtain ⟨Ao37, co37, eo37⟩ := Kd.R_slice HO299.out
      subst eo37
      go_wp2_with (first | ((with_reducible refine gate_callee (f := 12) rfl ?_); refine goesL_ (some 48) rfl rfl Try.func12 (by kernel_rfl) rfl #[.slice Ao36 t308.length co36, .slice Ao37 t297.length co37] rfl (by simp only [mA, mB, mC]; all_goals rfl) ?_; (with_reducible refine (laws_eqSlideS.calls k _ _ t308 _ _ t297 true _ ?side1 ?side2 ?side3 ?side4 A34.out).mono ?_); (case side1 => repeat (first | exact (Kd.R_reads' HO310.out).2.2 | (with_reducible refine cA ?_ _) | (with_reducible refine cN ?_ _) | (with_reducible refine cD ?_))); (case side2 => exact (Kd.R_reads' HO310.out).2.1); (case side3 => repeat (first | exact (Kd.R_reads' HO299.out).2.2 | (with_reducible refine cA ?_ _) | (with_reducible refine cN ?_ _) | (with_reducible refine cD ?_))); (case side4 => exact (Kd.R_reads' HO299.out).2.1); rintro e w38 ⟨rfl, hb⟩; refine ⟨_, rfl, ?_⟩; replace HO293 := aM (Kd.R_below HO293.out hb); replace HO296 := aM (Kd.R_below HO296.out hb); replace HO299 := aM (Kd.R_below HO299.out hb); replace HO303 := aM (Kd.R_below HO303.out hb); replace HO306 := aM (Kd.R_below HO306.out hb); replace HO310 := aM (Kd.R_below HO310.out hb); replace BK289 := aM (blk_below (g := gb289) (o := .cells #[.slice A0_0 l0_0.length c0_0, .slice A0_1 l0_1.length c0_1] 25 (0, 0)) BK289.out hb); replace BK307 := aM (blk_below (g := gb307) (o := .cells #[.slice Ao29 t301.length co29, .slice Ao32 t304.length co32] 31 (0, 0)) BK307.out hb); replace HB := aM (below_step HB.out hb); (try clear hb)))
      go_meet
      case rel => exact ⟨_, ((t311 != t300)), rfl, H', ⟨by omega⟩, ⟨by (with_reducible repeat (first | apply rA | apply rN | apply rD)); exact Kd.R_mono HO299.out (fun _ hk => hk.2)⟩, ⟨by (with_reducible repeat (first | apply rA | apply rN | apply rD)); exact Kd.R_mono HO310.out (fun _ hk => hk.2)⟩, ⟨by (with_reducible repeat (first | apply rA | apply rN | apply rD)); exact Kd.R_mono HO303.out (fun _ hk => trivial)⟩, ⟨by (with_reducible repeat (first | apply rA | apply rN | apply rD)); exact Kd.R_mono HO306.out (fun _ hk => trivial)⟩, BK289, BK307, HB⟩
     ·replace c35 := Bool.eq_false_iff.mpr c35
      subst c35
      have H1 : (laws_FnExactFirstSlides.j0 k a1 a2 t297 t300 t308 t311 true l0_0 l0_1 t301 t304) = some r := by rw [if_neg (show ¬ (false = true) by decide)] at H; exact H
      clear H; have H := H1; clear H1
      have H' := aM H
      clear H
      obtain ⟨Ao39, co39, eo39⟩ := Kd.R_slice HO310.out
      subst eo39
      obtain ⟨Ao40, co40, eo40⟩ := Kd.R_slice HO299.out
      subst eo40
      go_wp2_with (first | ((with_reducible refine gate_callee (f := 12) rfl ?_); refine goesL_ (some 48) rfl rfl Try.func12 (by kernel_rfl) rfl #[.slice Ao39 t308.length co39, .slice Ao40 t297.length co40] rfl (by simp only [mA, mB, mC]; all_goals rfl) ?_; (with_reducible refine (laws_eqSlideS.calls k _ _ t308 _ _ t297 false _ ?side1 ?side2 ?side3 ?side4 A34.out).mono ?_); (case side1 => repeat (first | exact (Kd.R_reads' HO310.out).2.2 | (with_reducible refine cA ?_ _) | (with_reducible refine cN ?_ _) | (with_reducible refine cD ?_))); (case side2 => exact (Kd.R_reads' HO310.out).2.1); (case side3 => repeat (first | exact (Kd.R_reads' HO299.out).2.2 | (with_reducible refine cA ?_ _) | (with_reducible refine cN ?_ _) | (with_reducible refine cD ?_))); (case side4 => exact (Kd.R_reads' HO299.out).2.1); rintro e w41 ⟨rfl, hb⟩; refine ⟨_, rfl, ?_⟩; replace HO293 := aM (Kd.R_below HO293.out hb); replace HO296 := aM (Kd.R_below HO296.out hb); replace HO299 := aM (Kd.R_below HO299.out hb); replace HO303 := aM (Kd.R_below HO303.out hb); replace HO306 := aM (Kd.R_below HO306.out hb); replace HO310 := aM (Kd.R_below HO310.out hb); replace BK289 := aM (blk_below (g := gb289) (o := .cells #[.slice A0_0 l0_0.length c0_0, .slice A0_1 l0_1.length c0_1] 25 (0, 0)) BK289.out hb); replace BK307 := aM (blk_below (g := gb307) (o := .cells #[.slice Ao29 t301.length co29, .slice Ao32 t304.length co32] 31 (0, 0)) BK307.out hb); replace HB := aM (below_step HB.out hb); (try clear hb)))
      go_meet
      case rel => exact ⟨_, (true), rfl, H', ⟨by omega⟩, ⟨by (with_reducible repeat (first | apply rA | apply rN | apply rD)); exact Kd.R_mono HO299.out (fun _ hk => hk.2)⟩, ⟨by (with_reducible repeat (first | apply rA | apply rN | apply rD)); exact Kd.R_mono HO310.out (fun _ hk => hk.2)⟩, ⟨by (with_reducible repeat (first | apply rA | apply rN | apply rD)); exact Kd.R_mono HO303.out (fun _ hk => trivial)⟩, ⟨by (with_reducible repeat (first | apply rA | apply rN | apply rD)); exact Kd.R_mono HO306.out (fun _ hk => trivial)⟩, BK289, BK307, HB⟩
    case rest =>
     clear HC17
     try clear c1
     try clear p2
     try clear c3
     try clear c4
     try clear c4b0
     try clear c4b1
     try clear c5
     try clear c6
     try clear c6b0
     try clear c6b1
     try clear c7
     try clear c9
     try clear c9b0
     try clear c10
     try clear c11
     try clear c12
     try clear c30
     try clear c35
     try clear hcz11_0
     try clear hcz11_1
     try clear hcz19_0
     try clear hcz19_1
     try clear hcz21_0
     try clear hcz21_1
     try clear hcz26_0
     try clear hcz26_1
     try clear hcz31_0
     try clear hcz31_1
     try clear hfz11_0
     try clear hfz11_1
     try clear hfz19_0
     try clear hfz19_1
     try clear hfz21_0
     try clear hfz21_1
     try clear hfz26_0
     try clear hfz26_1
     try clear hfz31_0
     try clear hfz31_1
     obtain ⟨kq, x54_16, rfl, HA, HJ16, HO_8, HO_11, HO_308000, HO_308001, BK289, BK307, HB⟩ := hcut
     cases kq with
     | zero => exact absurd HA.out (by simp [laws_FnExactFirstSlides.j0])
     | succ kj16 =>
      have H := HA.out
      clear HA
      simp only [laws_FnExactFirstSlides.j0] at H
      by_cases c42 : x54_16 = true
      ·subst c42
       have H1 : (some false) = some r := by rw [if_pos rfl] at H; exact H
       clear H; have H := H1; clear H1
       obtain rfl := Option.some.inj H
       go_wp2
       go_ret
       exact ⟨rfl, HB.out⟩
      ·replace c42 := Bool.eq_false_iff.mpr c42
       subst c42
       have H1 : ((laws_toBolts.f kj16 l0_0 l0_1).bind fun bt313 => ((laws_eqBolts.f kj16 t301 t304 bt313.1 bt313.2).bind fun t319 => (if t319 = true then ((laws_markBolts.f kj16 t301 t304 1).bind fun bt320 => (if bt320.1 < 0 then (laws_FnExactFirstSlides.j1 kj16 a1 a2 t297 t300 t308 true l0_0 l0_1) else ((laws_eqSlideS.f kj16 t308 t297).bind fun t323 => (if t323 = true then (laws_FnExactFirstSlides.j1 kj16 a1 a2 t297 t300 t308 (t311 != t300) l0_0 l0_1) else (laws_FnExactFirstSlides.j1 kj16 a1 a2 t297 t300 t308 true l0_0 l0_1))))) else (some false)))) = some r := by rw [if_neg (show ¬ (false = true) by decide)] at H; exact H
       clear H; have H := H1; clear H1
       replace H := Option.bind_eq_some_iff.mp H
       obtain ⟨⟨t313, t316⟩, A430, H⟩ := H
       replace H : ((laws_eqBolts.f kj16 t301 t304 t313 t316).bind fun t319 => (if t319 = true then ((laws_markBolts.f kj16 t301 t304 1).bind fun bt320 => (if bt320.1 < 0 then (laws_FnExactFirstSlides.j1 kj16 a1 a2 t297 t300 t308 true l0_0 l0_1) else ((laws_eqSlideS.f kj16 t308 t297).bind fun t323 => (if t323 = true then (laws_FnExactFirstSlides.j1 kj16 a1 a2 t297 t300 t308 (t311 != t300) l0_0 l0_1) else (laws_FnExactFirstSlides.j1 kj16 a1 a2 t297 t300 t308 true l0_0 l0_1))))) else (some false))) = some r := H
       have A43 := aM A430
       clear A430
       replace H := Option.bind_eq_some_iff.mp H
       obtain ⟨t319, A440, H⟩ := H
       replace H : (if t319 = true then ((laws_markBolts.f kj16 t301 t304 1).bind fun bt320 => (if bt320.1 < 0 then (laws_FnExactFirstSlides.j1 kj16 a1 a2 t297 t300 t308 true l0_0 l0_1) else ((laws_eqSlideS.f kj16 t308 t297).bind fun t323 => (if t323 = true then (laws_FnExactFirstSlides.j1 kj16 a1 a2 t297 t300 t308 (t311 != t300) l0_0 l0_1) else (laws_FnExactFirstSlides.j1 kj16 a1 a2 t297 t300 t308 true l0_0 l0_1))))) else (some false)) = some r := H
       have A44 := aM A440
       clear A440
       by_cases c45 : t319 = true
       ·subst c45
        have H1 : ((laws_markBolts.f kj16 t301 t304 1).bind fun bt320 => (if bt320.1 < 0 then (laws_FnExactFirstSlides.j1 kj16 a1 a2 t297 t300 t308 true l0_0 l0_1) else ((laws_eqSlideS.f kj16 t308 t297).bind fun t323 => (if t323 = true then (laws_FnExactFirstSlides.j1 kj16 a1 a2 t297 t300 t308 (t311 != t300) l0_0 l0_1) else (laws_FnExactFirstSlides.j1 kj16 a1 a2 t297 t300 t308 true l0_0 l0_1))))) = some r := by rw [if_pos rfl] at H; exact H
        clear H; have H := H1; clear H1
        replace H := Option.bind_eq_some_iff.mp H
        obtain ⟨⟨t320, t321, t322⟩, A460, H⟩ := H
        replace H : (if t320 < 0 then (laws_FnExactFirstSlides.j1 kj16 a1 a2 t297 t300 t308 true l0_0 l0_1) else ((laws_eqSlideS.f kj16 t308 t297).bind fun t323 => (if t323 = true then (laws_FnExactFirstSlides.j1 kj16 a1 a2 t297 t300 t308 (t311 != t300) l0_0 l0_1) else (laws_FnExactFirstSlides.j1 kj16 a1 a2 t297 t300 t308 true l0_0 l0_1)))) = some r := H
        have A46 := aM A460
        clear A460
        have HC47 := aM H
        clear H
        try go_wp2
        have n0_ := aM (Kd.R_drew HO_8.out)
        have n1_ := aM (Kd.R_drew HO_11.out)
        have n2_ := aM (Kd.R_drew HO_308000.out)
        have n3_ := aM (Kd.R_drew HO_308001.out)
        have n4_ := aM (blk_drew BK289.out)
        have n5_ := aM (blk_drew BK307.out)
        have n6_ := aM (below_drew1 HB.out)
        clear HO_8 HO_11 HO_308000 HO_308001 BK289 BK307 HB
        have HO_8 := n0_
        have HO_11 := n1_
        have HO_308000 := n2_
        have HO_308001 := n3_
        have BK289 := n4_
        have BK307 := n5_
        have HB := n6_
        clear n0_ n1_ n2_ n3_ n4_ n5_ n6_
        refine start_ (n := 5) (S := fun w' => w'.cell? ⟨gb307, 0, none⟩ = some (.slice Ao29 t301.length co29) ∧ w'.cell? ⟨gb307, 1, none⟩ = some (.slice Ao32 t304.length co32) ∧ w'.cell? ⟨gb289, 0, none⟩ = some (.slice A0_0 l0_0.length c0_0) ∧ w'.cell? ⟨gb289, 1, none⟩ = some (.slice A0_1 l0_1.length c0_1)) (ds := []) #[F,F,F,F,F] (by kernel_rfl) rfl rfl ⟨(blk_cell BK307.out 0).trans rfl, (blk_cell BK307.out 1).trans rfl, (blk_cell BK289.out 0).trans rfl, (blk_cell BK289.out 1).trans rfl⟩ (fun hHeld => ?_)
        generalize wc.drew = w48 at HO_8 HO_11 HO_308000 HO_308001 BK289 BK307 HB hHeld ⊢
        refine take_ (i := 0) (N := some 55) (v := ?_) (a' := ?_) #[T,F,F,F,F] rfl rfl (by kernel_rfl) (fun _ _ _ h => h) (Or.inl ⟨by rfl, ?_⟩) hHeld ?_ ?_
        rotate_left
        ·rintro w' ⟨s0, s1, s2, s3⟩
         go_simp
         with_reducible rfl
        rotate_left
        ·simp only [Act.put, sA, sB, sC, i64_w, i32_w]
         rfl
        refine take_ (i := 1) (N := some 56) (v := ?_) (a' := ?_) #[T,T,F,F,F] rfl rfl (by kernel_rfl) (fun _ _ _ h => h) (Or.inl ⟨by rfl, ?_⟩) hHeld ?_ ?_
        rotate_left
        ·rintro w' ⟨s0, s1, s2, s3⟩
         go_simp
         with_reducible rfl
        rotate_left
        ·simp only [Act.put, sA, sB, sC, i64_w, i32_w]
         rfl
        refine one_ (i := 2) (N := some 57) #[T,T,T,F,F] rfl rfl (by kernel_rfl) (by decide) (fun K hK => ?_)
        refine goes_ Try.func7 (by kernel_rfl) rfl #[.agg #[.slice A0_0 l0_0.length c0_0, .slice A0_1 l0_1.length c0_1]] (by rfl) rfl rfl (by simp only [mA, mB, mC]; all_goals rfl) ?_
        with_reducible refine (laws_toBolts.calls kj16 _ _ l0_0 _ _ l0_1 t313 t316 _ ?side1 ?side2 ?side3 ?side4 A43.out).mono ?_
        (case side1 => exact Kd.C_below HR0_0.out HB.out)
        (case side2 => exact HC0_0.out)
        (case side3 => exact Kd.C_below HR0_1.out HB.out)
        (case side4 => exact HC0_1.out)
        rintro e w49 ⟨v314, v317, rfl, ho0, ho1, hb⟩
        refine ⟨_, rfl, ?_⟩
        have n0_ := aM (Kd.R_below HO_8.out hb)
        have n1_ := aM (Kd.R_below HO_11.out hb)
        have n2_ := aM (Kd.R_elder' HO_308000.out (Kd.R_base ho0) hb)
        have n3_ := aM (Kd.R_elder' HO_308001.out (Kd.R_base ho1) hb)
        have n4_ := aM (Kd.R_lower (Kd.R_new' ho0 (Kd.R_lt HO_308000.out)) (below_size HB.out))
        have n5_ := aM (Kd.R_lower (Kd.R_new' ho1 (Kd.R_lt HO_308001.out)) (below_size HB.out))
        have n6_ := aM (blk_below (g := gb289) (o := .cells #[.slice A0_0 l0_0.length c0_0, .slice A0_1 l0_1.length c0_1] 25 (0, 0)) BK289.out hb)
        have n7_ := aM (blk_below (g := gb307) (o := .cells #[.slice Ao29 t301.length co29, .slice Ao32 t304.length co32] 31 (0, 0)) BK307.out hb)
        have n8_ := aM (below_step HB.out hb)
        clear HO_8 HO_11 HO_308000 HO_308001 BK289 BK307 HB
        have HO_8 := n0_
        have HO_11 := n1_
        have HO_308000 := n2_
        have HO_308001 := n3_
        have HO315 := n4_
        have HO318 := n5_
        have BK289 := n6_
        have BK307 := n7_
        have HB := n8_
        clear n0_ n1_ n2_ n3_ n4_ n5_ n6_ n7_ n8_
        (try clear hb)
        (try clear hb2)
        (try clear hk)
        (try clear hi)
        (try clear ho0)
        (try clear ho1)
        obtain ⟨Ao50, co50, eo50⟩ := Kd.R_slice HO315.out
        (first | subst eo50 | (injection eo50 with f1_ f2_ f3_; have f4_ := f1_.symm; have f5_ := f3_.symm; clear f1_ f2_ f3_; subst f4_; subst f5_))
        obtain ⟨Ao51, co51, eo51⟩ := Kd.R_slice HO318.out
        (first | subst eo51 | (injection eo51 with f1_ f2_ f3_; have f4_ := f1_.symm; have f5_ := f3_.symm; clear f1_ f2_ f3_; subst f4_; subst f5_))
        refine hK.out _ _ ⟨(blk_cell BK307.out 0).trans rfl, (blk_cell BK307.out 1).trans rfl, (blk_cell BK289.out 0).trans rfl, (blk_cell BK289.out 1).trans rfl⟩ (fun hHeld => ?_)
        clear hK K
        refine norm_ (a' := ?_) ?_ ?_
        rotate_left
        ·show Act.put _ (some 57) _ = _
         simp only [Act.put, sA, sB, sC, i64_w, i32_w]
         rfl
        refine one_ (i := 3) (N := some 58) #[T,T,T,T,F] rfl rfl (by kernel_rfl) (by decide) (fun K hK => ?_)
        refine goes_ Try.func9 (by kernel_rfl) rfl #[.agg #[.slice Ao29 t301.length co29, .slice Ao32 t304.length co32], .agg #[.slice Ao50 t313.length co50, .slice Ao51 t316.length co51]] (by rfl) rfl rfl (by simp only [mA, mB, mC]; all_goals rfl) ?_
        with_reducible refine (laws_eqBolts.calls kj16 _ _ t301 _ _ t304 _ _ t313 _ _ t316 true _ ?side1 ?side2 ?side3 ?side4 ?side5 ?side6 ?side7 ?side8 A44.out).mono ?_
        (case side1 => repeat (first | exact (Kd.R_reads' HO_308000.out).2.2 | (with_reducible refine cA ?_ _) | (with_reducible refine cN ?_ _) | (with_reducible refine cD ?_)))
        (case side2 => exact (Kd.R_reads' HO_308000.out).2.1)
        (case side3 => repeat (first | exact (Kd.R_reads' HO_308001.out).2.2 | (with_reducible refine cA ?_ _) | (with_reducible refine cN ?_ _) | (with_reducible refine cD ?_)))
        (case side4 => exact (Kd.R_reads' HO_308001.out).2.1)
        (case side5 => repeat (first | exact (Kd.R_reads' HO315.out).2.2 | (with_reducible refine cA ?_ _) | (with_reducible refine cN ?_ _) | (with_reducible refine cD ?_)))
        (case side6 => exact (Kd.R_reads' HO315.out).2.1)
        (case side7 => repeat (first | exact (Kd.R_reads' HO318.out).2.2 | (with_reducible refine cA ?_ _) | (with_reducible refine cN ?_ _) | (with_reducible refine cD ?_)))
        (case side8 => exact (Kd.R_reads' HO318.out).2.1)
        rintro e w52 ⟨rfl, hb⟩
        refine ⟨_, rfl, ?_⟩
        have n0_ := aM (Kd.R_below HO_8.out hb)
        have n1_ := aM (Kd.R_below HO_11.out hb)
        have n2_ := aM (Kd.R_below HO_308000.out hb)
        have n3_ := aM (Kd.R_below HO_308001.out hb)
        have n4_ := aM (Kd.R_below HO315.out hb)
        have n5_ := aM (Kd.R_below HO318.out hb)
        have n6_ := aM (blk_below (g := gb289) (o := .cells #[.slice A0_0 l0_0.length c0_0, .slice A0_1 l0_1.length c0_1] 25 (0, 0)) BK289.out hb)
        have n7_ := aM (blk_below (g := gb307) (o := .cells #[.slice Ao29 t301.length co29, .slice Ao32 t304.length co32] 31 (0, 0)) BK307.out hb)
        have n8_ := aM (below_step HB.out hb)
        clear HO_8 HO_11 HO_308000 HO_308001 HO315 HO318 BK289 BK307 HB
        have HO_8 := n0_
        have HO_11 := n1_
        have HO_308000 := n2_
        have HO_308001 := n3_
        have HO315 := n4_
        have HO318 := n5_
        have BK289 := n6_
        have BK307 := n7_
        have HB := n8_
        clear n0_ n1_ n2_ n3_ n4_ n5_ n6_ n7_ n8_
        (try clear hb)
        (try clear hb2)
        (try clear hk)
        (try clear hi)
        refine hK.out _ _ ⟨(blk_cell BK307.out 0).trans rfl, (blk_cell BK307.out 1).trans rfl, (blk_cell BK289.out 0).trans rfl, (blk_cell BK289.out 1).trans rfl⟩ (fun hHeld => ?_)
        clear hK K
        refine norm_ (a' := ?_) ?_ ?_
        rotate_left
        ·show Act.put _ (some 58) _ = _
         simp only [Act.put, sA, sB, sC, i64_w, i32_w]
         rfl
        refine pure_ (i := 4) (N := some 59) (v := ?_) (a' := ?_) #[T,T,T,T,T] rfl rfl (by kernel_rfl) (fun _ _ _ h => h) (Or.inl ⟨by rfl, ?_⟩) ?_ ?_; rotate_left; (next => intro w'; go_simp; with_reducible rfl); rotate_left; next => simp only [Act.put, sA, sB, sC, i64_w, i32_w]; rfl
        refine done_ (by kernel_rfl) ?_
        have hnb53 := NB307_289.out
        have hnc53 := NB289_307.out
        have hcz54_0 : w52.cell? ⟨gb307, 0, none⟩ = some (.slice Ao29 t301.length co29) := (blk_cell BK307.out 0).trans rfl
        have hcz54_1 : w52.cell? ⟨gb307, 1, none⟩ = some (.slice Ao32 t304.length co32) := (blk_cell BK307.out 1).trans rfl
        have hfz54_0 := blk_frozen BK307.out 0
        have hfz54_1 := blk_frozen BK307.out 1
        go_upto_region 18 with (first | ((with_reducible refine gate_callee (f := 13) rfl ?_); refine goesL_ (some 62) rfl rfl Try.func13 (by kernel_rfl) rfl #[.agg #[.slice Ao29 t301.length co29, .slice Ao32 t304.length co32], .int .i64 1] rfl (by simp only [mA, mB, mC]; all_goals rfl) ?_; (with_reducible refine (laws_markBolts.calls kj16 (fun k_ => some k_ = (.slice Ao29 t301.length co29 : Value).ownBlock) (.slice Ao29 t301.length co29) t301 (fun k_ => some k_ = (.slice Ao32 t304.length co32 : Value).ownBlock) (.slice Ao32 t304.length co32) t304 1 t320 t321 t322 w _ ?side1 ?side2 ?side3 A46.out).mono ?_); (case side1 => repeat (first | (with_reducible first | exact HB.out | apply bA | apply bN | apply bD | refine bS ?_ GE289.out | refine bS ?_ GE307.out) | exact HB.out)); (case side2 => exact Kd.R_tight rfl HO_308000.out); (case side3 => exact Kd.R_tight rfl HO_308001.out); rintro e w55 ⟨rfl, hy0, hy1, hb, hkp⟩; refine ⟨_, rfl, ?_⟩; replace HO_8 := aM (Kd.R_mono (ok' := fun k_ => some k_ ≠ (v309 : Value).ownBlock) (Kd.R_keptB ((Kd.R_apart' (Kd.R_apart' HO_8.out (Kd.R_typed HO_308000.out) (by decide)) (Kd.R_typed HO_308001.out) (by decide))) hkp (fun k_ hk_ hs_ => Or.elim hs_ (fun e_ => (hk_.1.2) e_) (fun e_ => (hk_.2) e_))) (fun k_ hk_ => hk_.1.1.1)); replace HO_11 := aM (Kd.R_mono (ok' := fun k_ => some k_ ≠ (v298 : Value).ownBlock) (Kd.R_keptB ((Kd.R_apart' (Kd.R_apart' HO_11.out (Kd.R_typed HO_308000.out) (by decide)) (Kd.R_typed HO_308001.out) (by decide))) hkp (fun k_ hk_ hs_ => Or.elim hs_ (fun e_ => (hk_.1.2) e_) (fun e_ => (hk_.2) e_))) (fun k_ hk_ => hk_.1.1.1)); replace BK289 := aM (blk_kept BK289.out hkp (fun hs_ => Or.elim hs_ (fun e_ => (fun e_ => (Kd.R_ne HO_308000.out BK289.out (by decide)) e_) e_) (fun e_ => (fun e_ => (Kd.R_ne HO_308001.out BK289.out (by decide)) e_) e_))); replace BK307 := aM (blk_kept BK307.out hkp (fun hs_ => Or.elim hs_ (fun e_ => (fun e_ => (Kd.R_ne HO_308000.out BK307.out (by decide)) e_) e_) (fun e_ => (fun e_ => (Kd.R_ne HO_308001.out BK307.out (by decide)) e_) e_))); replace HO315 := aM (Kd.R_mono (ok' := fun k_ => some k_ ≠ (.slice Ao29 t301.length co29 : Value).ownBlock) (Kd.R_keptB ((Kd.R_apart' HO315.out (Kd.R_typed HO_308001.out) (by decide))) hkp (fun k_ hk_ hs_ => Or.elim hs_ (fun e_ => (hk_.1.2) e_) (fun e_ => (hk_.2) e_))) (fun k_ hk_ => hk_.1.1.2)); replace HO_308001 := aM (Kd.R_reok rfl hy1 (fun k_ e_ => HO_308001.out.1 k_ e_)); replace HO318 := aM (Kd.R_mono (ok' := fun k_ => some k_ ≠ (.slice Ao32 t304.length co32 : Value).ownBlock) (Kd.R_keptB ((Kd.R_apart' HO318.out (Kd.R_typed HO_308000.out) (by decide))) hkp (fun k_ hk_ hs_ => Or.elim hs_ (fun e_ => (hk_.2) e_) (fun e_ => (hk_.1.2) e_))) (fun k_ hk_ => hk_.1.1.2)); replace HO_308000 := aM (Kd.R_reok rfl hy0 (fun k_ e_ => HO_308000.out.1 k_ e_)); replace HB := aM (hb); (try clear hb); (try clear hkp); (try clear hy0); (try clear hy1)))
        (try simp only [Act.put, sA, sB, sC])
        go_cut [75] (fun v75 wc => ∃ (kq : Nat) (x75_46 : Bool), v75 = .bool x75_46 ∧ Aside0 (laws_FnExactFirstSlides.j1 kq a1 a2 t297 t300 t308 x75_46 l0_0 l0_1 = some r) ∧ Aside0 (kq ≤ kj16) ∧ Aside0 (Kd.R k62 62 wc w.heap.size (fun k_ => some k_ ≠ (v309 : Value).ownBlock) v298 t297) ∧ Aside0 (Kd.R k62 62 wc w.heap.size (fun k_ => some k_ ≠ (v298 : Value).ownBlock) v309 t308) ∧ Aside0 (Kd.R (Kd.int .i64) 3 wc w.heap.size (fun _ => True) (.slice Ao29 t301.length co29) t321) ∧ Aside0 (Kd.R k77 77 wc w.heap.size (fun _ => True) (.slice Ao32 t304.length co32) t322) ∧ Aside0 (wc.heap[gb289]? = some (.cells #[(.slice A0_0 l0_0.length c0_0), (.slice A0_1 l0_1.length c0_1)] 25 (0, 0))) ∧ Aside0 (wc.heap[gb307]? = some (.cells #[(.slice Ao29 t301.length co29), (.slice Ao32 t304.length co32)] 31 (0, 0))) ∧ Aside0 (Below w.heap.size w wc))
        case first =>
         have H := HC47.out
         clear HC47
         by_cases c56 : t320 < 0
         ·rw [if_pos c56] at H
          have c56b0 : decide (t320 < 0) = true := decide_eq_true c56
          clear c56
          (first | rw [c56b0] | (simp only [i64_w, i32_w]; rw [c56b0]) | skip)
          have H' := aM H
          clear H
          go_wp2
          go_meet
          case rel => exact ⟨_, (true), rfl, H', ⟨by have := HJ16.out; first | omega | exact Nat.le_refl _⟩, HO_8, HO_11, ⟨by (with_reducible repeat (first | apply rA | apply rN | apply rD)); exact Kd.R_mono HO_308000.out (fun _ hk => trivial)⟩, ⟨by (with_reducible repeat (first | apply rA | apply rN | apply rD)); exact Kd.R_mono HO_308001.out (fun _ hk => trivial)⟩, BK289, BK307, HB⟩
         ·rw [if_neg c56] at H
          have c56b0 : decide (t320 < 0) = false := decide_eq_false c56
          clear c56
          (first | rw [c56b0] | (simp only [i64_w, i32_w]; rw [c56b0]) | skip)
          replace H := Option.bind_eq_some_iff.mp H
          obtain ⟨t323, A570, H⟩ := H
          replace H : (if t323 = true then (laws_FnExactFirstSlides.j1 kj16 a1 a2 t297 t300 t308 (t311 != t300) l0_0 l0_1) else (laws_FnExactFirstSlides.j1 kj16 a1 a2 t297 t300 t308 true l0_0 l0_1)) = some r := H
          have A57 := aM A570
          clear A570
          by_cases c58 : t323 = true
          ·subst c58
           have H1 : (laws_FnExactFirstSlides.j1 kj16 a1 a2 t297 t300 t308 (t311 != t300) l0_0 l0_1) = some r := by rw [if_pos rfl] at H; exact H
           clear H; have H := H1; clear H1
           have H' := aM H
           clear H
           obtain ⟨Ao59, co59, eo59⟩ := Kd.R_slice HO_11.out
           subst eo59
           obtain ⟨Ao60, co60, eo60⟩ := Kd.R_slice HO_8.out
           subst eo60
           go_wp2_with (first | (go_at_call 12; (with_reducible refine (laws_eqSlideS.calls kj16 _ _ t308 _ _ t297 true _ ?side1 ?side2 ?side3 ?side4 A57.out).mono ?_); (case side1 => repeat (first | exact (Kd.R_reads' HO_11.out).2.2 | (with_reducible refine cA ?_ _) | (with_reducible refine cN ?_ _) | (with_reducible refine cD ?_))); (case side2 => exact (Kd.R_reads' HO_11.out).2.1); (case side3 => repeat (first | exact (Kd.R_reads' HO_8.out).2.2 | (with_reducible refine cA ?_ _) | (with_reducible refine cN ?_ _) | (with_reducible refine cD ?_))); (case side4 => exact (Kd.R_reads' HO_8.out).2.1); rintro e w61 ⟨rfl, hb⟩; replace HO_8 := aM (Kd.R_below HO_8.out hb); replace HO_11 := aM (Kd.R_below HO_11.out hb); replace HO_308000 := aM (Kd.R_below HO_308000.out hb); replace HO_308001 := aM (Kd.R_below HO_308001.out hb); replace HO315 := aM (Kd.R_below HO315.out hb); replace HO318 := aM (Kd.R_below HO318.out hb); replace BK289 := aM (blk_below (g := gb289) (o := .cells #[.slice A0_0 l0_0.length c0_0, .slice A0_1 l0_1.length c0_1] 25 (0, 0)) BK289.out hb); replace BK307 := aM (blk_below (g := gb307) (o := .cells #[.slice Ao29 t301.length co29, .slice Ao32 t304.length co32] 31 (0, 0)) BK307.out hb); replace HB := aM (below_step HB.out hb); (try clear hb)))
           go_meet
           case rel => exact ⟨_, ((t311 != t300)), rfl, H', ⟨by have := HJ16.out; first | omega | exact Nat.le_refl _⟩, HO_8, HO_11, ⟨by (with_reducible repeat (first | apply rA | apply rN | apply rD)); exact Kd.R_mono HO_308000.out (fun _ hk => trivial)⟩, ⟨by (with_reducible repeat (first | apply rA | apply rN | apply rD)); exact Kd.R_mono HO_308001.out (fun _ hk => trivial)⟩, BK289, BK307, HB⟩
          ·replace c58 := Bool.eq_false_iff.mpr c58
           subst c58
           have H1 : (laws_FnExactFirstSlides.j1 kj16 a1 a2 t297 t300 t308 true l0_0 l0_1) = some r := by rw [if_neg (show ¬ (false = true) by decide)] at H; exact H
           clear H; have H := H1; clear H1
           have H' := aM H
           clear H
           obtain ⟨Ao62, co62, eo62⟩ := Kd.R_slice HO_11.out
           subst eo62
           obtain ⟨Ao63, co63, eo63⟩ := Kd.R_slice HO_8.out
           subst eo63
           go_wp2_with (first | (go_at_call 12; (with_reducible refine (laws_eqSlideS.calls kj16 _ _ t308 _ _ t297 false _ ?side1 ?side2 ?side3 ?side4 A57.out).mono ?_); (case side1 => repeat (first | exact (Kd.R_reads' HO_11.out).2.2 | (with_reducible refine cA ?_ _) | (with_reducible refine cN ?_ _) | (with_reducible refine cD ?_))); (case side2 => exact (Kd.R_reads' HO_11.out).2.1); (case side3 => repeat (first | exact (Kd.R_reads' HO_8.out).2.2 | (with_reducible refine cA ?_ _) | (with_reducible refine cN ?_ _) | (with_reducible refine cD ?_))); (case side4 => exact (Kd.R_reads' HO_8.out).2.1); rintro e w64 ⟨rfl, hb⟩; replace HO_8 := aM (Kd.R_below HO_8.out hb); replace HO_11 := aM (Kd.R_below HO_11.out hb); replace HO_308000 := aM (Kd.R_below HO_308000.out hb); replace HO_308001 := aM (Kd.R_below HO_308001.out hb); replace HO315 := aM (Kd.R_below HO315.out hb); replace HO318 := aM (Kd.R_below HO318.out hb); replace BK289 := aM (blk_below (g := gb289) (o := .cells #[.slice A0_0 l0_0.length c0_0, .slice A0_1 l0_1.length c0_1] 25 (0, 0)) BK289.out hb); replace BK307 := aM (blk_below (g := gb307) (o := .cells #[.slice Ao29 t301.length co29, .slice Ao32 t304.length co32] 31 (0, 0)) BK307.out hb); replace HB := aM (below_step HB.out hb); (try clear hb)))
           go_meet
           case rel => exact ⟨_, (true), rfl, H', ⟨by have := HJ16.out; first | omega | exact Nat.le_refl _⟩, HO_8, HO_11, ⟨by (with_reducible repeat (first | apply rA | apply rN | apply rD)); exact Kd.R_mono HO_308000.out (fun _ hk => trivial)⟩, ⟨by (with_reducible repeat (first | apply rA | apply rN | apply rD)); exact Kd.R_mono HO_308001.out (fun _ hk => trivial)⟩, BK289, BK307, HB⟩
        case rest =>
         clear HC47
         try clear c1
         try clear p2
         try clear c3
         try clear c4
         try clear c4b0
         try clear c4b1
         try clear c5
         try clear c6
         try clear c6b0
         try clear c6b1
         try clear c7
         try clear c9
         try clear c9b0
         try clear c10
         try clear c11
         try clear c12
         try clear c13
         try clear c30
         try clear c35
         try clear c42
         try clear c45
         try clear c53
         try clear c56
         try clear c56b0
         try clear c58
         try clear hcz11_0
         try clear hcz11_1
         try clear hcz19_0
         try clear hcz19_1
         try clear hcz21_0
         try clear hcz21_1
         try clear hcz26_0
         try clear hcz26_1
         try clear hcz31_0
         try clear hcz31_1
         try clear hcz54_0
         try clear hcz54_1
         try clear hfz11_0
         try clear hfz11_1
         try clear hfz19_0
         try clear hfz19_1
         try clear hfz21_0
         try clear hfz21_1
         try clear hfz26_0
         try clear hfz26_1
         try clear hfz31_0
         try clear hfz31_1
         try clear hfz54_0
         try clear hfz54_1
         try clear p2
         obtain ⟨kq, x75_46, rfl, HA, HJ46, HO_8, HO_11, HO_308000, HO_308001, BK289, BK307, HB⟩ := hcut
         have hl308000_46 := (Kd.R_reads' HO_308000.out).1
         rw [hl308000_46] at HO_308000
         (try simp only [hl308000_46])
         (try simp only [hl308000_46] at BK289)
         (try simp only [hl308000_46] at BK307)
         (try simp only [hl308000_46] at HO_8)
         (try simp only [hl308000_46] at HO_11)
         (try simp only [hl308000_46] at HO_308001)
         have hl308001_46 := (Kd.R_reads' HO_308001.out).1
         rw [hl308001_46] at HO_308001
         (try simp only [hl308001_46])
         (try simp only [hl308001_46] at BK289)
         (try simp only [hl308001_46] at BK307)
         (try simp only [hl308001_46] at HO_8)
         (try simp only [hl308001_46] at HO_11)
         (try simp only [hl308001_46] at HO_308000)
         cases kq with
         | zero => exact absurd HA.out (by simp [laws_FnExactFirstSlides.j1])
         | succ kj46 =>
          have H := HA.out
          clear HA
          simp only [laws_FnExactFirstSlides.j1] at H
          by_cases c65 : x75_46 = true
          ·subst c65
           have H1 : (some false) = some r := by rw [if_pos rfl] at H; exact H
           clear H; have H := H1; clear H1
           obtain rfl := Option.some.inj H
           go_wp2
           go_ret
           exact ⟨rfl, HB.out⟩
          ·replace c65 := Bool.eq_false_iff.mpr c65
           subst c65
           have H1 : ((laws_markSlideS.f kj46 t308 1).bind fun bt324 => ((laws_heldSlideS.f kj46 bt324.2 1).bind fun t326 => (if t326 < 0 then (some false) else (if t326 = bt324.1 then ((laws_toBolts.f kj46 l0_0 l0_1).bind fun bt327 => ((impl_FirstSlides.f kj46 bt327.1 bt327.2 a1 a2).bind fun bt333 => ((laws_eqSlideS.f kj46 bt333.1 t297).bind fun t337 => (if t337 = true then (laws_FnExactFirstSlides.j2 kj46 bt324.2 bt324.1 (bt333.2 != t300)) else (laws_FnExactFirstSlides.j2 kj46 bt324.2 bt324.1 true))))) else (some false))))) = some r := by rw [if_neg (show ¬ (false = true) by decide)] at H; exact H
           clear H; have H := H1; clear H1
           replace H := Option.bind_eq_some_iff.mp H
           obtain ⟨⟨t324, t325⟩, A660, H⟩ := H
           replace H : ((laws_heldSlideS.f kj46 t325 1).bind fun t326 => (if t326 < 0 then (some false) else (if t326 = t324 then ((laws_toBolts.f kj46 l0_0 l0_1).bind fun bt327 => ((impl_FirstSlides.f kj46 bt327.1 bt327.2 a1 a2).bind fun bt333 => ((laws_eqSlideS.f kj46 bt333.1 t297).bind fun t337 => (if t337 = true then (laws_FnExactFirstSlides.j2 kj46 t325 t324 (bt333.2 != t300)) else (laws_FnExactFirstSlides.j2 kj46 t325 t324 true))))) else (some false)))) = some r := H
           have A66 := aM A660
           clear A660
           replace H := Option.bind_eq_some_iff.mp H
           obtain ⟨t326, A670, H⟩ := H
           replace H : (if t326 < 0 then (some false) else (if t326 = t324 then ((laws_toBolts.f kj46 l0_0 l0_1).bind fun bt327 => ((impl_FirstSlides.f kj46 bt327.1 bt327.2 a1 a2).bind fun bt333 => ((laws_eqSlideS.f kj46 bt333.1 t297).bind fun t337 => (if t337 = true then (laws_FnExactFirstSlides.j2 kj46 t325 t324 (bt333.2 != t300)) else (laws_FnExactFirstSlides.j2 kj46 t325 t324 true))))) else (some false))) = some r := H
           have A67 := aM A670
           clear A670
           by_cases c68 : t326 < 0
           ·rw [if_pos c68] at H
            have c68b0 : decide (t326 < 0) = true := decide_eq_true c68
            clear c68
            obtain rfl := Option.some.inj H
            obtain ⟨Ao69, co69, eo69⟩ := Kd.R_slice HO_11.out
            subst eo69
            go_wp2_with (first | ((with_reducible refine gate_callee (f := 14) rfl ?_); refine goesL_ (some 78) rfl rfl Try.func14 (by kernel_rfl) rfl #[.slice Ao69 t308.length co69, .int .i64 1] rfl (by simp only [mA, mB, mC]; all_goals rfl) ?_; (with_reducible refine (laws_markSlideS.calls kj46 (fun k_ => some k_ = (.slice Ao69 t308.length co69 : Value).ownBlock) (.slice Ao69 t308.length co69) t308 1 t324 t325 w _ ?side1 ?side2 A66.out).mono ?_); (case side1 => repeat (first | (with_reducible first | exact HB.out | apply bA | apply bN | apply bD | refine bS ?_ GE289.out | refine bS ?_ GE307.out) | exact HB.out)); (case side2 => exact Kd.R_tight rfl HO_11.out); rintro e w70 ⟨rfl, hy0, hb, hkp⟩; refine ⟨_, rfl, ?_⟩; replace HO_8 := aM (Kd.R_mono (ok' := fun k_ => some k_ ≠ (.slice Ao69 t308.length co69 : Value).ownBlock) (Kd.R_keptB (HO_8.out) hkp (fun k_ hk_ hs_ => (hk_) hs_)) (fun k_ hk_ => hk_.1)); replace HO_308000 := aM (Kd.R_mono (ok' := fun k_ => True) (Kd.R_keptB ((Kd.R_apart' HO_308000.out (Kd.R_typed HO_11.out) (by decide))) hkp (fun k_ hk_ hs_ => (hk_.2) hs_)) (fun k_ hk_ => trivial)); replace HO_308001 := aM (Kd.R_mono (ok' := fun k_ => True) (Kd.R_keptB ((Kd.R_apart' HO_308001.out (Kd.R_typed HO_11.out) (by decide))) hkp (fun k_ hk_ hs_ => (hk_.2) hs_)) (fun k_ hk_ => trivial)); replace BK289 := aM (blk_kept BK289.out hkp (fun hs_ => (fun e_ => (Kd.R_ne HO_11.out BK289.out (by decide)) e_) hs_)); replace BK307 := aM (blk_kept BK307.out hkp (fun hs_ => (fun e_ => (Kd.R_ne HO_11.out BK307.out (by decide)) e_) hs_)); replace HO_11 := aM (Kd.R_reok rfl hy0 (fun k_ e_ => HO_11.out.1 k_ e_)); replace HB := aM (hb); (try clear hb); (try clear hkp); (try clear hy0)) | ((with_reducible refine gate_callee (f := 15) rfl ?_); refine goesL_ (some 81) rfl rfl Try.func15 (by kernel_rfl) rfl #[.slice Ao69 t325.length co69, .int .i64 1] rfl (by (try simp only [List.map_toArray, List.map_cons, List.map_nil]); first | done | (rw [show t325.length = t308.length from (Kd.R_reads' HO_11.out).1.symm] <;> rfl) | rfl | (simp only [List.length_drop, List.length_take]; rfl)) ?_; (with_reducible refine (laws_heldSlideS.calls kj46 _ _ t325 1 t326 _ ?side1 ?side2 A67.out).mono ?_); (case side1 => repeat (first | exact (Kd.R_reads' HO_11.out).2.2 | (with_reducible refine cA ?_ _) | (with_reducible refine cN ?_ _) | (with_reducible refine cD ?_))); (case side2 => rw [show t325.length = t308.length from (Kd.R_reads' HO_11.out).1.symm]; exact (Kd.R_reads' HO_11.out).2.1); rintro e w' ⟨rfl, ⟨nd, rfl⟩⟩; refine ⟨_, rfl, ?_⟩))
            go_ret
            exact ⟨rfl, by repeat first | exact HB.out | apply bA | apply bN | apply bD | refine bS ?_ GE289.out | refine bS ?_ GE307.out⟩
           ·rw [if_neg c68] at H
            have c68b0 : decide (t326 < 0) = false := decide_eq_false c68
            clear c68
            by_cases c71 : t326 = t324
            ·rw [if_pos c71] at H
             have c71b0 : (t326 == t324) = true := beq_iff_eq.mpr c71
             have c71b1 : (t326 != t324) = false := bne_eq_false_iff_eq.mpr c71
             clear c71
             replace H := Option.bind_eq_some_iff.mp H
             obtain ⟨⟨t327, t330⟩, A720, H⟩ := H
             replace H : ((impl_FirstSlides.f kj46 t327 t330 a1 a2).bind fun bt333 => ((laws_eqSlideS.f kj46 bt333.1 t297).bind fun t337 => (if t337 = true then (laws_FnExactFirstSlides.j2 kj46 t325 t324 (bt333.2 != t300)) else (laws_FnExactFirstSlides.j2 kj46 t325 t324 true)))) = some r := H
             have A72 := aM A720
             clear A720
             replace H := Option.bind_eq_some_iff.mp H
             obtain ⟨⟨t333, t336⟩, A730, H⟩ := H
             replace H : ((laws_eqSlideS.f kj46 t333 t297).bind fun t337 => (if t337 = true then (laws_FnExactFirstSlides.j2 kj46 t325 t324 (t336 != t300)) else (laws_FnExactFirstSlides.j2 kj46 t325 t324 true))) = some r := H
             have A73 := aM A730
             clear A730
             have HC74 := aM H
             clear H
             obtain ⟨Ao75, co75, eo75⟩ := Kd.R_slice HO_11.out
             subst eo75
             go_upto_region 29 with (first | ((with_reducible refine gate_callee (f := 14) rfl ?_); refine goesL_ (some 78) rfl rfl Try.func14 (by kernel_rfl) rfl #[.slice Ao75 t308.length co75, .int .i64 1] rfl (by simp only [mA, mB, mC]; all_goals rfl) ?_; (with_reducible refine (laws_markSlideS.calls kj46 (fun k_ => some k_ = (.slice Ao75 t308.length co75 : Value).ownBlock) (.slice Ao75 t308.length co75) t308 1 t324 t325 w _ ?side1 ?side2 A66.out).mono ?_); (case side1 => repeat (first | (with_reducible first | exact HB.out | apply bA | apply bN | apply bD | refine bS ?_ GE289.out | refine bS ?_ GE307.out) | exact HB.out)); (case side2 => exact Kd.R_tight rfl HO_11.out); rintro e w76 ⟨rfl, hy0, hb, hkp⟩; refine ⟨_, rfl, ?_⟩; replace HO_8 := aM (Kd.R_mono (ok' := fun k_ => some k_ ≠ (.slice Ao75 t308.length co75 : Value).ownBlock) (Kd.R_keptB (HO_8.out) hkp (fun k_ hk_ hs_ => (hk_) hs_)) (fun k_ hk_ => hk_.1)); replace HO_308000 := aM (Kd.R_mono (ok' := fun k_ => True) (Kd.R_keptB ((Kd.R_apart' HO_308000.out (Kd.R_typed HO_11.out) (by decide))) hkp (fun k_ hk_ hs_ => (hk_.2) hs_)) (fun k_ hk_ => trivial)); replace HO_308001 := aM (Kd.R_mono (ok' := fun k_ => True) (Kd.R_keptB ((Kd.R_apart' HO_308001.out (Kd.R_typed HO_11.out) (by decide))) hkp (fun k_ hk_ hs_ => (hk_.2) hs_)) (fun k_ hk_ => trivial)); replace BK289 := aM (blk_kept (by repeat first | exact BK289.out | refine kN ?_ _ | refine kD ?_ | refine kA ?_ _) hkp (fun hs_ => (fun e_ => (Kd.R_ne HO_11.out BK289.out (by decide)) e_) hs_)); replace BK307 := aM (blk_kept (by repeat first | exact BK307.out | refine kN ?_ _ | refine kD ?_ | refine kA ?_ _) hkp (fun hs_ => (fun e_ => (Kd.R_ne HO_11.out BK307.out (by decide)) e_) hs_)); replace HO_11 := aM (Kd.R_reok rfl hy0 (fun k_ e_ => HO_11.out.1 k_ e_)); replace HB := aM (hb); (try clear hb); (try clear hkp); (try clear hy0)) | ((with_reducible refine gate_callee (f := 15) rfl ?_); refine goesL_ (some 81) rfl rfl Try.func15 (by kernel_rfl) rfl #[.slice Ao75 t325.length co75, .int .i64 1] rfl (by (try simp only [List.map_toArray, List.map_cons, List.map_nil]); first | done | (rw [show t325.length = t308.length from (Kd.R_reads' HO_11.out).1.symm] <;> rfl) | rfl | (simp only [List.length_drop, List.length_take]; rfl)) ?_; (with_reducible refine (laws_heldSlideS.calls kj46 _ _ t325 1 t326 _ ?side1 ?side2 A67.out).mono ?_); (case side1 => repeat (first | exact (Kd.R_reads' HO_11.out).2.2 | (with_reducible refine cA ?_ _) | (with_reducible refine cN ?_ _) | (with_reducible refine cD ?_))); (case side2 => rw [show t325.length = t308.length from (Kd.R_reads' HO_11.out).1.symm]; exact (Kd.R_reads' HO_11.out).2.1); rintro e w' ⟨rfl, ⟨nd, rfl⟩⟩; refine ⟨_, rfl, ?_⟩; have hnb77 := NB289_307.out; have hnc77 := NB307_289.out; have hcz78_0 : w76.cell? ⟨gb289, 0, none⟩ = some (.slice A0_0 l0_0.length c0_0) := (blk_cell BK289.out 0).trans rfl; have hcz78_1 : w76.cell? ⟨gb289, 1, none⟩ = some (.slice A0_1 l0_1.length c0_1) := (blk_cell BK289.out 1).trans rfl; have hfz78_0 := blk_frozen BK289.out 0; have hfz78_1 := blk_frozen BK289.out 1) | ((with_reducible refine gate_callee (f := 7) rfl ?_); refine goesL_ (some 89) rfl rfl Try.func7 (by kernel_rfl) rfl #[.agg #[.slice A0_0 l0_0.length c0_0, .slice A0_1 l0_1.length c0_1]] rfl (by simp only [mA, mB, mC]; all_goals rfl) ?_; (with_reducible refine (laws_toBolts.calls kj46 _ _ l0_0 _ _ l0_1 t327 t330 _ ?side1 ?side2 ?side3 ?side4 A72.out).mono ?_); (case side1 => repeat (first | exact (Kd.C_below HR0_0.out (by repeat first | exact HB.out | apply bA | apply bN | apply bD | refine bS ?_ GE289.out | refine bS ?_ GE307.out)) | (with_reducible refine cA ?_ _) | (with_reducible refine cN ?_ _) | (with_reducible refine cD ?_))); (case side2 => exact HC0_0.out); (case side3 => repeat (first | exact (Kd.C_below HR0_1.out (by repeat first | exact HB.out | apply bA | apply bN | apply bD | refine bS ?_ GE289.out | refine bS ?_ GE307.out)) | (with_reducible refine cA ?_ _) | (with_reducible refine cN ?_ _) | (with_reducible refine cD ?_))); (case side4 => exact HC0_1.out); rintro e w79 ⟨v328, v331, rfl, ho0, ho1, hb⟩; refine ⟨_, rfl, ?_⟩; replace HO_8 := aM (Kd.R_below (by repeat first | exact HO_8.out | apply rA | apply rN | apply rD) hb); replace HO_11 := aM (Kd.R_below (by repeat first | exact HO_11.out | apply rA | apply rN | apply rD) hb); have HO329 := aM (Kd.R_lower (Kd.R_new' ho0 (Kd.R_lt (by repeat first | exact HO_308000.out | apply rA | apply rN | apply rD))) (below_size (by repeat first | exact HB.out | apply bA | apply bN | apply bD | refine bS ?_ GE289.out | refine bS ?_ GE307.out))); replace HO_308000 := aM (Kd.R_elder' (by repeat first | exact HO_308000.out | apply rA | apply rN | apply rD) (Kd.R_base ho0) hb); have HO332 := aM (Kd.R_lower (Kd.R_new' ho1 (Kd.R_lt (by repeat first | exact HO_308001.out | apply rA | apply rN | apply rD))) (below_size (by repeat first | exact HB.out | apply bA | apply bN | apply bD | refine bS ?_ GE289.out | refine bS ?_ GE307.out))); replace HO_308001 := aM (Kd.R_elder' (by repeat first | exact HO_308001.out | apply rA | apply rN | apply rD) (Kd.R_base ho1) hb); replace BK289 := aM (blk_below (g := gb289) (o := .cells #[.slice A0_0 l0_0.length c0_0, .slice A0_1 l0_1.length c0_1] 25 (0, 0)) (by repeat first | exact BK289.out | refine kN ?_ _ | refine kD ?_ | refine kA ?_ _) hb); replace BK307 := aM (blk_below (g := gb307) (o := .cells #[.slice Ao29 t321.length co29, .slice Ao32 t322.length co32] 31 (0, 0)) (by repeat first | exact BK307.out | refine kN ?_ _ | refine kD ?_ | refine kA ?_ _) hb); replace HB := aM (below_step (by repeat first | exact HB.out | apply bA | apply bN | apply bD | refine bS ?_ GE289.out | refine bS ?_ GE307.out) hb); (try clear hb); (try clear ho0); (try clear ho1); obtain ⟨Ao80, co80, eo80⟩ := Kd.R_slice HO329.out; subst eo80; obtain ⟨Ao81, co81, eo81⟩ := Kd.R_slice HO332.out; subst eo81) | ((with_reducible refine gate_callee (f := 11) rfl ?_); refine goesL_ (some 92) rfl rfl Try.func11 (by kernel_rfl) rfl #[.agg #[.slice Ao80 t327.length co80, .slice Ao81 t330.length co81], .string a1, .string a2] rfl (by simp only [mA, mB, mC]; all_goals rfl) ?_; (with_reducible refine (impl_FirstSlides.calls kj46 _ _ t327 _ _ t330 a1 a2 t333 t336 _ ?side1 ?side2 ?side3 ?side4 A73.out).mono ?_); (case side1 => repeat (first | exact (Kd.R_reads' HO329.out).2.2 | (with_reducible refine cA ?_ _) | (with_reducible refine cN ?_ _) | (with_reducible refine cD ?_))); (case side2 => exact (Kd.R_reads' HO329.out).2.1); (case side3 => repeat (first | exact (Kd.R_reads' HO332.out).2.2 | (with_reducible refine cA ?_ _) | (with_reducible refine cN ?_ _) | (with_reducible refine cD ?_))); (case side4 => exact (Kd.R_reads' HO332.out).2.1); rintro e w82 ⟨v334, rfl, ho0, hb⟩; refine ⟨_, rfl, ?_⟩; replace HO_308000 := aM (Kd.R_below (by repeat first | exact HO_308000.out | apply rA | apply rN | apply rD) hb); replace HO_308001 := aM (Kd.R_below (by repeat first | exact HO_308001.out | apply rA | apply rN | apply rD) hb); replace HO329 := aM (Kd.R_below (by repeat first | exact HO329.out | apply rA | apply rN | apply rD) hb); replace HO332 := aM (Kd.R_below (by repeat first | exact HO332.out | apply rA | apply rN | apply rD) hb); have HO335 := aM (Kd.R_lower (Kd.R_new' (Kd.R_new' ho0 (Kd.R_lt (by repeat first | exact HO_8.out | apply rA | apply rN | apply rD))) (Kd.R_lt (by repeat first | exact HO_11.out | apply rA | apply rN | apply rD))) (below_size (by repeat first | exact HB.out | apply bA | apply bN | apply bD | refine bS ?_ GE289.out | refine bS ?_ GE307.out))); replace HO_8 := aM (Kd.R_elder' (by repeat first | exact HO_8.out | apply rA | apply rN | apply rD) (Kd.R_base ho0) hb); replace HO_11 := aM (Kd.R_elder' (by repeat first | exact HO_11.out | apply rA | apply rN | apply rD) (Kd.R_base ho0) hb); replace BK289 := aM (blk_below (g := gb289) (o := .cells #[.slice A0_0 l0_0.length c0_0, .slice A0_1 l0_1.length c0_1] 25 (0, 0)) (by repeat first | exact BK289.out | refine kN ?_ _ | refine kD ?_ | refine kA ?_ _) hb); replace BK307 := aM (blk_below (g := gb307) (o := .cells #[.slice Ao29 t321.length co29, .slice Ao32 t322.length co32] 31 (0, 0)) (by repeat first | exact BK307.out | refine kN ?_ _ | refine kD ?_ | refine kA ?_ _) hb); replace HB := aM (below_step (by repeat first | exact HB.out | apply bA | apply bN | apply bD | refine bS ?_ GE289.out | refine bS ?_ GE307.out) hb); (try clear hb); (try clear ho0)))
             (try simp only [Act.put, sA, sB, sC])
             go_cut [103] (fun v103 wc => ∃ (kq : Nat) (x103_73 : Bool), v103 = .bool x103_73 ∧ Aside0 (laws_FnExactFirstSlides.j2 kq t325 t324 x103_73 = some r) ∧ Aside0 (kq ≤ kj46) ∧ Aside0 (Kd.R k62 62 wc w.heap.size (fun _ => True) (.slice Ao75 t308.length co75) t325) ∧ Aside0 (Kd.R (Kd.int .i64) 3 wc w.heap.size (fun _ => True) (.slice Ao29 t321.length co29) t321) ∧ Aside0 (Kd.R k77 77 wc w.heap.size (fun _ => True) (.slice Ao32 t322.length co32) t322) ∧ Aside0 (wc.heap[gb289]? = some (.cells #[(.slice A0_0 l0_0.length c0_0), (.slice A0_1 l0_1.length c0_1)] 25 (0, 0))) ∧ Aside0 (wc.heap[gb307]? = some (.cells #[(.slice Ao29 t321.length co29), (.slice Ao32 t322.length co32)] 31 (0, 0))) ∧ Aside0 (Below w.heap.size w wc))
             case first =>
              have H := HC74.out
              clear HC74
              replace H := Option.bind_eq_some_iff.mp H
              obtain ⟨t337, A830, H⟩ := H
              replace H : (if t337 = true then (laws_FnExactFirstSlides.j2 kj46 t325 t324 (t336 != t300)) else (laws_FnExactFirstSlides.j2 kj46 t325 t324 true)) = some r := H
              have A83 := aM A830
              clear A830
              by_cases c84 : t337 = true
              ·subst c84
               have H1 : (laws_FnExactFirstSlides.j2 kj46 t325 t324 (t336 != t300)) = some r := by rw [if_pos rfl] at H; exact H
               clear H; have H := H1; clear H1
               have H' := aM H
               clear H
               obtain ⟨Ao85, co85, eo85⟩ := Kd.R_slice HO335.out
               subst eo85
               obtain ⟨Ao86, co86, eo86⟩ := Kd.R_slice HO_8.out
               subst eo86
               go_wp2_with (first | ((with_reducible refine gate_callee (f := 12) rfl ?_); refine goesL_ (some 97) rfl rfl Try.func12 (by kernel_rfl) rfl #[.slice Ao85 t333.length co85, .slice Ao86 t297.length co86] rfl (by simp only [mA, mB, mC]; all_goals rfl) ?_; (with_reducible refine (laws_eqSlideS.calls kj46 _ _ t333 _ _ t297 true _ ?side1 ?side2 ?side3 ?side4 A83.out).mono ?_); (case side1 => repeat (first | exact (Kd.R_reads' HO335.out).2.2 | (with_reducible refine cA ?_ _) | (with_reducible refine cN ?_ _) | (with_reducible refine cD ?_))); (case side2 => exact (Kd.R_reads' HO335.out).2.1); (case side3 => repeat (first | exact (Kd.R_reads' HO_8.out).2.2 | (with_reducible refine cA ?_ _) | (with_reducible refine cN ?_ _) | (with_reducible refine cD ?_))); (case side4 => exact (Kd.R_reads' HO_8.out).2.1); rintro e w87 ⟨rfl, hb⟩; refine ⟨_, rfl, ?_⟩; replace HO_8 := aM (Kd.R_below HO_8.out hb); replace HO_11 := aM (Kd.R_below HO_11.out hb); replace HO_308000 := aM (Kd.R_below HO_308000.out hb); replace HO_308001 := aM (Kd.R_below HO_308001.out hb); replace HO329 := aM (Kd.R_below HO329.out hb); replace HO332 := aM (Kd.R_below HO332.out hb); replace HO335 := aM (Kd.R_below HO335.out hb); replace BK289 := aM (blk_below (g := gb289) (o := .cells #[.slice A0_0 l0_0.length c0_0, .slice A0_1 l0_1.length c0_1] 25 (0, 0)) BK289.out hb); replace BK307 := aM (blk_below (g := gb307) (o := .cells #[.slice Ao29 t321.length co29, .slice Ao32 t322.length co32] 31 (0, 0)) BK307.out hb); replace HB := aM (below_step HB.out hb); (try clear hb)))
               go_meet
               case rel => exact ⟨_, ((t336 != t300)), rfl, H', ⟨by have := HJ16.out; have := HJ46.out; first | omega | exact Nat.le_refl _⟩, ⟨by (try simp only [hl308000_46]); (try simp only [hl308001_46]); (with_reducible repeat (first | apply rA | apply rN | apply rD)); exact Kd.R_mono HO_11.out (fun _ hk => trivial)⟩, ⟨by (try simp only [hl308000_46]); (try simp only [hl308001_46]); (with_reducible repeat (first | apply rA | apply rN | apply rD)); exact Kd.R_mono HO_308000.out (fun _ hk => trivial)⟩, ⟨by (try simp only [hl308000_46]); (try simp only [hl308001_46]); (with_reducible repeat (first | apply rA | apply rN | apply rD)); exact Kd.R_mono HO_308001.out (fun _ hk => trivial)⟩, ⟨by (try simp only [hl308000_46]); (try simp only [hl308001_46]); (with_reducible repeat (first | refine kN ?_ _ | refine kD ?_ | refine kA ?_ _)); exact BK289.out⟩, ⟨by (try simp only [hl308000_46]); (try simp only [hl308001_46]); (with_reducible repeat (first | refine kN ?_ _ | refine kD ?_ | refine kA ?_ _)); exact BK307.out⟩, HB⟩
              ·replace c84 := Bool.eq_false_iff.mpr c84
               subst c84
               have H1 : (laws_FnExactFirstSlides.j2 kj46 t325 t324 true) = some r := by rw [if_neg (show ¬ (false = true) by decide)] at H; exact H
               clear H; have H := H1; clear H1
               have H' := aM H
               clear H
               obtain ⟨Ao88, co88, eo88⟩ := Kd.R_slice HO335.out
               subst eo88
               obtain ⟨Ao89, co89, eo89⟩ := Kd.R_slice HO_8.out
               subst eo89
               go_wp2_with (first | ((with_reducible refine gate_callee (f := 12) rfl ?_); refine goesL_ (some 97) rfl rfl Try.func12 (by kernel_rfl) rfl #[.slice Ao88 t333.length co88, .slice Ao89 t297.length co89] rfl (by simp only [mA, mB, mC]; all_goals rfl) ?_; (with_reducible refine (laws_eqSlideS.calls kj46 _ _ t333 _ _ t297 false _ ?side1 ?side2 ?side3 ?side4 A83.out).mono ?_); (case side1 => repeat (first | exact (Kd.R_reads' HO335.out).2.2 | (with_reducible refine cA ?_ _) | (with_reducible refine cN ?_ _) | (with_reducible refine cD ?_))); (case side2 => exact (Kd.R_reads' HO335.out).2.1); (case side3 => repeat (first | exact (Kd.R_reads' HO_8.out).2.2 | (with_reducible refine cA ?_ _) | (with_reducible refine cN ?_ _) | (with_reducible refine cD ?_))); (case side4 => exact (Kd.R_reads' HO_8.out).2.1); rintro e w90 ⟨rfl, hb⟩; refine ⟨_, rfl, ?_⟩; replace HO_8 := aM (Kd.R_below HO_8.out hb); replace HO_11 := aM (Kd.R_below HO_11.out hb); replace HO_308000 := aM (Kd.R_below HO_308000.out hb); replace HO_308001 := aM (Kd.R_below HO_308001.out hb); replace HO329 := aM (Kd.R_below HO329.out hb); replace HO332 := aM (Kd.R_below HO332.out hb); replace HO335 := aM (Kd.R_below HO335.out hb); replace BK289 := aM (blk_below (g := gb289) (o := .cells #[.slice A0_0 l0_0.length c0_0, .slice A0_1 l0_1.length c0_1] 25 (0, 0)) BK289.out hb); replace BK307 := aM (blk_below (g := gb307) (o := .cells #[.slice Ao29 t321.length co29, .slice Ao32 t322.length co32] 31 (0, 0)) BK307.out hb); replace HB := aM (below_step HB.out hb); (try clear hb)))
               go_meet
               case rel => exact ⟨_, (true), rfl, H', ⟨by have := HJ16.out; have := HJ46.out; first | omega | exact Nat.le_refl _⟩, ⟨by (try simp only [hl308000_46]); (try simp only [hl308001_46]); (with_reducible repeat (first | apply rA | apply rN | apply rD)); exact Kd.R_mono HO_11.out (fun _ hk => trivial)⟩, ⟨by (try simp only [hl308000_46]); (try simp only [hl308001_46]); (with_reducible repeat (first | apply rA | apply rN | apply rD)); exact Kd.R_mono HO_308000.out (fun _ hk => trivial)⟩, ⟨by (try simp only [hl308000_46]); (try simp only [hl308001_46]); (with_reducible repeat (first | apply rA | apply rN | apply rD)); exact Kd.R_mono HO_308001.out (fun _ hk => trivial)⟩, ⟨by (try simp only [hl308000_46]); (try simp only [hl308001_46]); (with_reducible repeat (first | refine kN ?_ _ | refine kD ?_ | refine kA ?_ _)); exact BK289.out⟩, ⟨by (try simp only [hl308000_46]); (try simp only [hl308001_46]); (with_reducible repeat (first | refine kN ?_ _ | refine kD ?_ | refine kA ?_ _)); exact BK307.out⟩, HB⟩
             case rest =>
              clear HC74
              try clear c1
              try clear p2
              try clear c3
              try clear c4
              try clear c4b0
              try clear c4b1
              try clear c5
              try clear c6
              try clear c6b0
              try clear c6b1
              try clear c7
              try clear c8
              try clear c9
              try clear c9b0
              try clear c10
              try clear c11
              try clear c12
              try clear c13
              try clear c14
              try clear c15
              try clear c30
              try clear c35
              try clear c42
              try clear c45
              try clear c53
              try clear c56
              try clear c56b0
              try clear c58
              try clear c65
              try clear c68
              try clear c68b0
              try clear c71
              try clear c71b0
              try clear c71b1
              try clear c77
              try clear c84
              try clear hcz11_0
              try clear hcz11_1
              try clear hcz19_0
              try clear hcz19_1
              try clear hcz21_0
              try clear hcz21_1
              try clear hcz26_0
              try clear hcz26_1
              try clear hcz31_0
              try clear hcz31_1
              try clear hcz54_0
              try clear hcz54_1
              try clear hcz78_0
              try clear hcz78_1
              try clear hfz11_0
              try clear hfz11_1
              try clear hfz19_0
              try clear hfz19_1
              try clear hfz21_0
              try clear hfz21_1
              try clear hfz26_0
              try clear hfz26_1
              try clear hfz31_0
              try clear hfz31_1
              try clear hfz54_0
              try clear hfz54_1
              try clear hfz78_0
              try clear hfz78_1
              try clear p2
              obtain ⟨kq, x103_73, rfl, HA, HJ73, HO_11, HO_308000, HO_308001, BK289, BK307, HB⟩ := hcut
              have hl11_73 := (Kd.R_reads' HO_11.out).1
              rw [hl11_73] at HO_11
              (try simp only [hl11_73])
              (try simp only [hl11_73] at BK289)
              (try simp only [hl11_73] at BK307)
              (try simp only [hl11_73] at HO_308000)
              (try simp only [hl11_73] at HO_308001)
              cases kq with
              | zero => exact absurd HA.out (by simp [laws_FnExactFirstSlides.j2])
              | succ kj73 =>
               have H := HA.out
               clear HA
               simp only [laws_FnExactFirstSlides.j2] at H
               by_cases c91 : x103_73 = true
               ·subst c91
                have H1 : (some false) = some r := by rw [if_pos rfl] at H; exact H
                clear H; have H := H1; clear H1
                obtain rfl := Option.some.inj H
                go_wp2
                go_ret
                exact ⟨rfl, HB.out⟩
               ·replace c91 := Bool.eq_false_iff.mpr c91
                subst c91
                have H1 : ((laws_heldSlideS.f kj73 t325 1).bind fun t338 => (if t338 < 0 then (some false) else (if t338 = t324 then (some true) else (some false)))) = some r := by rw [if_neg (show ¬ (false = true) by decide)] at H; exact H
                clear H; have H := H1; clear H1
                replace H := Option.bind_eq_some_iff.mp H
                obtain ⟨t338, A920, H⟩ := H
                replace H : (if t338 < 0 then (some false) else (if t338 = t324 then (some true) else (some false))) = some r := H
                have A92 := aM A920
                clear A920
                by_cases c93 : t338 < 0
                ·rw [if_pos c93] at H
                 have c93b0 : decide (t338 < 0) = true := decide_eq_true c93
                 clear c93
                 obtain rfl := Option.some.inj H
                 go_wp2_with (first | ((with_reducible refine gate_callee (f := 15) rfl ?_); refine goesL_ (some 106) rfl rfl Try.func15 (by kernel_rfl) rfl #[.slice Ao75 t325.length co75, .int .i64 1] rfl (by simp only [mA, mB, mC]; all_goals rfl) ?_; (with_reducible refine (laws_heldSlideS.calls kj73 _ _ t325 1 t338 _ ?side1 ?side2 A92.out).mono ?_); (case side1 => repeat (first | exact (Kd.R_reads' HO_11.out).2.2 | (with_reducible refine cA ?_ _) | (with_reducible refine cN ?_ _) | (with_reducible refine cD ?_))); (case side2 => exact (Kd.R_reads' HO_11.out).2.1); rintro e w' ⟨rfl, ⟨nd, rfl⟩⟩; refine ⟨_, rfl, ?_⟩))
                 go_ret
                 exact ⟨rfl, by repeat first | exact HB.out | apply bA | apply bN | apply bD | refine bS ?_ GE289.out | refine bS ?_ GE307.out⟩
                ·rw [if_neg c93] at H
                 have c93b0 : decide (t338 < 0) = false := decide_eq_false c93
                 clear c93
                 by_cases c94 : t338 = t324
                 ·rw [if_pos c94] at H
                  have c94b0 : (t338 == t324) = true := beq_iff_eq.mpr c94
                  have c94b1 : (t338 != t324) = false := bne_eq_false_iff_eq.mpr c94
                  clear c94
                  obtain rfl := Option.some.inj H
                  go_wp2_with (first | ((with_reducible refine gate_callee (f := 15) rfl ?_); refine goesL_ (some 106) rfl rfl Try.func15 (by kernel_rfl) rfl #[.slice Ao75 t325.length co75, .int .i64 1] rfl (by simp only [mA, mB, mC]; all_goals rfl) ?_; (with_reducible refine (laws_heldSlideS.calls kj73 _ _ t325 1 t338 _ ?side1 ?side2 A92.out).mono ?_); (case side1 => repeat (first | exact (Kd.R_reads' HO_11.out).2.2 | (with_reducible refine cA ?_ _) | (with_reducible refine cN ?_ _) | (with_reducible refine cD ?_))); (case side2 => exact (Kd.R_reads' HO_11.out).2.1); rintro e w' ⟨rfl, ⟨nd, rfl⟩⟩; refine ⟨_, rfl, ?_⟩))
                  go_ret
                  exact ⟨rfl, by repeat first | exact HB.out | apply bA | apply bN | apply bD | refine bS ?_ GE289.out | refine bS ?_ GE307.out⟩
                 ·rw [if_neg c94] at H
                  have c94b0 : (t338 == t324) = false := beq_eq_false_iff_ne.mpr c94
                  have c94b1 : (t338 != t324) = true := bne_iff_ne.mpr c94
                  obtain rfl := Option.some.inj H
                  go_wp2_with (first | ((with_reducible refine gate_callee (f := 15) rfl ?_); refine goesL_ (some 106) rfl rfl Try.func15 (by kernel_rfl) rfl #[.slice Ao75 t325.length co75, .int .i64 1] rfl (by simp only [mA, mB, mC]; all_goals rfl) ?_; (with_reducible refine (laws_heldSlideS.calls kj73 _ _ t325 1 t338 _ ?side1 ?side2 A92.out).mono ?_); (case side1 => repeat (first | exact (Kd.R_reads' HO_11.out).2.2 | (with_reducible refine cA ?_ _) | (with_reducible refine cN ?_ _) | (with_reducible refine cD ?_))); (case side2 => exact (Kd.R_reads' HO_11.out).2.1); rintro e w' ⟨rfl, ⟨nd, rfl⟩⟩; refine ⟨_, rfl, ?_⟩))
                  go_ret
                  exact ⟨rfl, by repeat first | exact HB.out | apply bA | apply bN | apply bD | refine bS ?_ GE289.out | refine bS ?_ GE307.out⟩
            ·rw [if_neg c71] at H
             have c71b0 : (t326 == t324) = false := beq_eq_false_iff_ne.mpr c71
             have c71b1 : (t326 != t324) = true := bne_iff_ne.mpr c71
             obtain rfl := Option.some.inj H
             obtain ⟨Ao95, co95, eo95⟩ := Kd.R_slice HO_11.out
             subst eo95
             go_wp2_with (first | ((with_reducible refine gate_callee (f := 14) rfl ?_); refine goesL_ (some 78) rfl rfl Try.func14 (by kernel_rfl) rfl #[.slice Ao95 t308.length co95, .int .i64 1] rfl (by simp only [mA, mB, mC]; all_goals rfl) ?_; (with_reducible refine (laws_markSlideS.calls kj46 (fun k_ => some k_ = (.slice Ao95 t308.length co95 : Value).ownBlock) (.slice Ao95 t308.length co95) t308 1 t324 t325 w _ ?side1 ?side2 A66.out).mono ?_); (case side1 => repeat (first | (with_reducible first | exact HB.out | apply bA | apply bN | apply bD | refine bS ?_ GE289.out | refine bS ?_ GE307.out) | exact HB.out)); (case side2 => exact Kd.R_tight rfl HO_11.out); rintro e w96 ⟨rfl, hy0, hb, hkp⟩; refine ⟨_, rfl, ?_⟩; replace HO_8 := aM (Kd.R_mono (ok' := fun k_ => some k_ ≠ (.slice Ao95 t308.length co95 : Value).ownBlock) (Kd.R_keptB (HO_8.out) hkp (fun k_ hk_ hs_ => (hk_) hs_)) (fun k_ hk_ => hk_.1)); replace HO_308000 := aM (Kd.R_mono (ok' := fun k_ => True) (Kd.R_keptB ((Kd.R_apart' HO_308000.out (Kd.R_typed HO_11.out) (by decide))) hkp (fun k_ hk_ hs_ => (hk_.2) hs_)) (fun k_ hk_ => trivial)); replace HO_308001 := aM (Kd.R_mono (ok' := fun k_ => True) (Kd.R_keptB ((Kd.R_apart' HO_308001.out (Kd.R_typed HO_11.out) (by decide))) hkp (fun k_ hk_ hs_ => (hk_.2) hs_)) (fun k_ hk_ => trivial)); replace BK289 := aM (blk_kept BK289.out hkp (fun hs_ => (fun e_ => (Kd.R_ne HO_11.out BK289.out (by decide)) e_) hs_)); replace BK307 := aM (blk_kept BK307.out hkp (fun hs_ => (fun e_ => (Kd.R_ne HO_11.out BK307.out (by decide)) e_) hs_)); replace HO_11 := aM (Kd.R_reok rfl hy0 (fun k_ e_ => HO_11.out.1 k_ e_)); replace HB := aM (hb); (try clear hb); (try clear hkp); (try clear hy0)) | ((with_reducible refine gate_callee (f := 15) rfl ?_); refine goesL_ (some 81) rfl rfl Try.func15 (by kernel_rfl) rfl #[.slice Ao95 t325.length co95, .int .i64 1] rfl (by (try simp only [List.map_toArray, List.map_cons, List.map_nil]); first | done | (rw [show t325.length = t308.length from (Kd.R_reads' HO_11.out).1.symm] <;> rfl) | rfl | (simp only [List.length_drop, List.length_take]; rfl)) ?_; (with_reducible refine (laws_heldSlideS.calls kj46 _ _ t325 1 t326 _ ?side1 ?side2 A67.out).mono ?_); (case side1 => repeat (first | exact (Kd.R_reads' HO_11.out).2.2 | (with_reducible refine cA ?_ _) | (with_reducible refine cN ?_ _) | (with_reducible refine cD ?_))); (case side2 => rw [show t325.length = t308.length from (Kd.R_reads' HO_11.out).1.symm]; exact (Kd.R_reads' HO_11.out).2.1); rintro e w' ⟨rfl, ⟨nd, rfl⟩⟩; refine ⟨_, rfl, ?_⟩))
             go_ret
             exact ⟨rfl, by repeat first | exact HB.out | apply bA | apply bN | apply bD | refine bS ?_ GE289.out | refine bS ?_ GE307.out⟩
       ·replace c45 := Bool.eq_false_iff.mpr c45
        subst c45
        have H1 : (some false) = some r := by rw [if_neg (show ¬ (false = true) by decide)] at H; exact H
        clear H; have H := H1; clear H1
        obtain rfl := Option.some.inj H
        try go_wp2
        have n0_ := aM (Kd.R_drew HO_8.out)
        have n1_ := aM (Kd.R_drew HO_11.out)
        have n2_ := aM (Kd.R_drew HO_308000.out)
        have n3_ := aM (Kd.R_drew HO_308001.out)
        have n4_ := aM (blk_drew BK289.out)
        have n5_ := aM (blk_drew BK307.out)
        have n6_ := aM (below_drew1 HB.out)
        clear HO_8 HO_11 HO_308000 HO_308001 BK289 BK307 HB
        have HO_8 := n0_
        have HO_11 := n1_
        have HO_308000 := n2_
        have HO_308001 := n3_
        have BK289 := n4_
        have BK307 := n5_
        have HB := n6_
        clear n0_ n1_ n2_ n3_ n4_ n5_ n6_
        refine start_ (n := 5) (S := fun w' => w'.cell? ⟨gb307, 0, none⟩ = some (.slice Ao29 t301.length co29) ∧ w'.cell? ⟨gb307, 1, none⟩ = some (.slice Ao32 t304.length co32) ∧ w'.cell? ⟨gb289, 0, none⟩ = some (.slice A0_0 l0_0.length c0_0) ∧ w'.cell? ⟨gb289, 1, none⟩ = some (.slice A0_1 l0_1.length c0_1)) (ds := []) #[F,F,F,F,F] (by kernel_rfl) rfl rfl ⟨(blk_cell BK307.out 0).trans rfl, (blk_cell BK307.out 1).trans rfl, (blk_cell BK289.out 0).trans rfl, (blk_cell BK289.out 1).trans rfl⟩ (fun hHeld => ?_)
        generalize wc.drew = w97 at HO_8 HO_11 HO_308000 HO_308001 BK289 BK307 HB hHeld ⊢
        refine take_ (i := 0) (N := some 55) (v := ?_) (a' := ?_) #[T,F,F,F,F] rfl rfl (by kernel_rfl) (fun _ _ _ h => h) (Or.inl ⟨by rfl, ?_⟩) hHeld ?_ ?_
        rotate_left
        ·rintro w' ⟨s0, s1, s2, s3⟩
         go_simp
         with_reducible rfl
        rotate_left
        ·simp only [Act.put, sA, sB, sC, i64_w, i32_w]
         rfl
        refine take_ (i := 1) (N := some 56) (v := ?_) (a' := ?_) #[T,T,F,F,F] rfl rfl (by kernel_rfl) (fun _ _ _ h => h) (Or.inl ⟨by rfl, ?_⟩) hHeld ?_ ?_
        rotate_left
        ·rintro w' ⟨s0, s1, s2, s3⟩
         go_simp
         with_reducible rfl
        rotate_left
        ·simp only [Act.put, sA, sB, sC, i64_w, i32_w]
         rfl
        refine one_ (i := 2) (N := some 57) #[T,T,T,F,F] rfl rfl (by kernel_rfl) (by decide) (fun K hK => ?_)
        refine goes_ Try.func7 (by kernel_rfl) rfl #[.agg #[.slice A0_0 l0_0.length c0_0, .slice A0_1 l0_1.length c0_1]] (by rfl) rfl rfl (by simp only [mA, mB, mC]; all_goals rfl) ?_
        with_reducible refine (laws_toBolts.calls kj16 _ _ l0_0 _ _ l0_1 t313 t316 _ ?side1 ?side2 ?side3 ?side4 A43.out).mono ?_
        (case side1 => exact Kd.C_below HR0_0.out HB.out)
        (case side2 => exact HC0_0.out)
        (case side3 => exact Kd.C_below HR0_1.out HB.out)
        (case side4 => exact HC0_1.out)
        rintro e w98 ⟨v314, v317, rfl, ho0, ho1, hb⟩
        refine ⟨_, rfl, ?_⟩
        have n0_ := aM (Kd.R_below HO_8.out hb)
        have n1_ := aM (Kd.R_below HO_11.out hb)
        have n2_ := aM (Kd.R_elder' HO_308000.out (Kd.R_base ho0) hb)
        have n3_ := aM (Kd.R_elder' HO_308001.out (Kd.R_base ho1) hb)
        have n4_ := aM (Kd.R_lower (Kd.R_new' ho0 (Kd.R_lt HO_308000.out)) (below_size HB.out))
        have n5_ := aM (Kd.R_lower (Kd.R_new' ho1 (Kd.R_lt HO_308001.out)) (below_size HB.out))
        have n6_ := aM (blk_below (g := gb289) (o := .cells #[.slice A0_0 l0_0.length c0_0, .slice A0_1 l0_1.length c0_1] 25 (0, 0)) BK289.out hb)
        have n7_ := aM (blk_below (g := gb307) (o := .cells #[.slice Ao29 t301.length co29, .slice Ao32 t304.length co32] 31 (0, 0)) BK307.out hb)
        have n8_ := aM (below_step HB.out hb)
        clear HO_8 HO_11 HO_308000 HO_308001 BK289 BK307 HB
        have HO_8 := n0_
        have HO_11 := n1_
        have HO_308000 := n2_
        have HO_308001 := n3_
        have HO315 := n4_
        have HO318 := n5_
        have BK289 := n6_
        have BK307 := n7_
        have HB := n8_
        clear n0_ n1_ n2_ n3_ n4_ n5_ n6_ n7_ n8_
        (try clear hb)
        (try clear hb2)
        (try clear hk)
        (try clear hi)
        (try clear ho0)
        (try clear ho1)
        obtain ⟨Ao99, co99, eo99⟩ := Kd.R_slice HO315.out
        (first | subst eo99 | (injection eo99 with f1_ f2_ f3_; have f4_ := f1_.symm; have f5_ := f3_.symm; clear f1_ f2_ f3_; subst f4_; subst f5_))
        obtain ⟨Ao100, co100, eo100⟩ := Kd.R_slice HO318.out
        (first | subst eo100 | (injection eo100 with f1_ f2_ f3_; have f4_ := f1_.symm; have f5_ := f3_.symm; clear f1_ f2_ f3_; subst f4_; subst f5_))
        refine hK.out _ _ ⟨(blk_cell BK307.out 0).trans rfl, (blk_cell BK307.out 1).trans rfl, (blk_cell BK289.out 0).trans rfl, (blk_cell BK289.out 1).trans rfl⟩ (fun hHeld => ?_)
        clear hK K
        refine norm_ (a' := ?_) ?_ ?_
        rotate_left
        ·show Act.put _ (some 57) _ = _
         simp only [Act.put, sA, sB, sC, i64_w, i32_w]
         rfl
        refine one_ (i := 3) (N := some 58) #[T,T,T,T,F] rfl rfl (by kernel_rfl) (by decide) (fun K hK => ?_)
        refine goes_ Try.func9 (by kernel_rfl) rfl #[.agg #[.slice Ao29 t301.length co29, .slice Ao32 t304.length co32], .agg #[.slice Ao99 t313.length co99, .slice Ao100 t316.length co100]] (by rfl) rfl rfl (by simp only [mA, mB, mC]; all_goals rfl) ?_
        with_reducible refine (laws_eqBolts.calls kj16 _ _ t301 _ _ t304 _ _ t313 _ _ t316 false _ ?side1 ?side2 ?side3 ?side4 ?side5 ?side6 ?side7 ?side8 A44.out).mono ?_
        (case side1 => repeat (first | exact (Kd.R_reads' HO_308000.out).2.2 | (with_reducible refine cA ?_ _) | (with_reducible refine cN ?_ _) | (with_reducible refine cD ?_)))
        (case side2 => exact (Kd.R_reads' HO_308000.out).2.1)
        (case side3 => repeat (first | exact (Kd.R_reads' HO_308001.out).2.2 | (with_reducible refine cA ?_ _) | (with_reducible refine cN ?_ _) | (with_reducible refine cD ?_)))
        (case side4 => exact (Kd.R_reads' HO_308001.out).2.1)
        (case side5 => repeat (first | exact (Kd.R_reads' HO315.out).2.2 | (with_reducible refine cA ?_ _) | (with_reducible refine cN ?_ _) | (with_reducible refine cD ?_)))
        (case side6 => exact (Kd.R_reads' HO315.out).2.1)
        (case side7 => repeat (first | exact (Kd.R_reads' HO318.out).2.2 | (with_reducible refine cA ?_ _) | (with_reducible refine cN ?_ _) | (with_reducible refine cD ?_)))
        (case side8 => exact (Kd.R_reads' HO318.out).2.1)
        rintro e w101 ⟨rfl, hb⟩
        refine ⟨_, rfl, ?_⟩
        have n0_ := aM (Kd.R_below HO_8.out hb)
        have n1_ := aM (Kd.R_below HO_11.out hb)
        have n2_ := aM (Kd.R_below HO_308000.out hb)
        have n3_ := aM (Kd.R_below HO_308001.out hb)
        have n4_ := aM (Kd.R_below HO315.out hb)
        have n5_ := aM (Kd.R_below HO318.out hb)
        have n6_ := aM (blk_below (g := gb289) (o := .cells #[.slice A0_0 l0_0.length c0_0, .slice A0_1 l0_1.length c0_1] 25 (0, 0)) BK289.out hb)
        have n7_ := aM (blk_below (g := gb307) (o := .cells #[.slice Ao29 t301.length co29, .slice Ao32 t304.length co32] 31 (0, 0)) BK307.out hb)
        have n8_ := aM (below_step HB.out hb)
        clear HO_8 HO_11 HO_308000 HO_308001 HO315 HO318 BK289 BK307 HB
        have HO_8 := n0_
        have HO_11 := n1_
        have HO_308000 := n2_
        have HO_308001 := n3_
        have HO315 := n4_
        have HO318 := n5_
        have BK289 := n6_
        have BK307 := n7_
        have HB := n8_
        clear n0_ n1_ n2_ n3_ n4_ n5_ n6_ n7_ n8_
        (try clear hb)
        (try clear hb2)
        (try clear hk)
        (try clear hi)
        refine hK.out _ _ ⟨(blk_cell BK307.out 0).trans rfl, (blk_cell BK307.out 1).trans rfl, (blk_cell BK289.out 0).trans rfl, (blk_cell BK289.out 1).trans rfl⟩ (fun hHeld => ?_)
        clear hK K
        refine norm_ (a' := ?_) ?_ ?_
        rotate_left
        ·show Act.put _ (some 58) _ = _
         simp only [Act.put, sA, sB, sC, i64_w, i32_w]
         rfl
        refine pure_ (i := 4) (N := some 59) (v := ?_) (a' := ?_) #[T,T,T,T,T] rfl rfl (by kernel_rfl) (fun _ _ _ h => h) (Or.inl ⟨by rfl, ?_⟩) ?_ ?_; rotate_left; (next => intro w'; go_simp; with_reducible rfl); rotate_left; next => simp only [Act.put, sA, sB, sC, i64_w, i32_w]; rfl
        refine done_ (by kernel_rfl) ?_
        try go_wp2
        go_ret
        exact ⟨rfl, HB.out⟩

/-- THE ONE PURE STATEMENT of laws_FnExactFirstSlides. -/
def laws_FnExactFirstSlides.Pure : Prop := ∀ (l0_0 : List Int) (l0_1 : List (S82)) (a1 : ByteArray) (a2 : ByteArray), l0_0.length ≤ maxLen → (∀ x ∈ l0_0, (Lit.int .i64 x).wf = true) → l0_1.length ≤ maxLen → a1.size ≤ 140737488351232 → a2.size ≤ 140737488351232 → ∃ k, laws_FnExactFirstSlides.f k l0_0 l0_1 a1 a2 = some true
theorem laws_FnExactFirstSlides.walk (P : laws_FnExactFirstSlides.Pure) (A0_0 : Option Addr) (c0_0 : Nat) (l0_0 : List (Int)) (A0_1 : Option Addr) (c0_1 : Nat) (l0_1 : List (S82)) (a1 : ByteArray) (a2 : ByteArray) (w : World) (hr0_0 : Kd.C (Kd.int .i64) w A0_0 l0_0.length l0_0) (hc0_0 : l0_0.length ≤ c0_0) (w0_ : l0_0.length ≤ maxLen) (w1_ : (∀ x ∈ l0_0, (Lit.int .i64 x).wf = true)) (hr0_1 : Kd.C k82 w A0_1 l0_1.length l0_1) (hc0_1 : l0_1.length ≤ c0_1) (w2_ : l0_1.length ≤ maxLen) (w3_ : a1.size ≤ 140737488351232) (w4_ : a2.size ≤ 140737488351232) :
  Calls Try.prog 4 #[.agg #[.slice A0_0 l0_0.length c0_0, .slice A0_1 l0_1.length c0_1], .string a1, .string a2] w fun e w' => e = .returned (.bool true) ∧ Below w.heap.size w w' := by
 obtain ⟨k, h⟩ := P l0_0 l0_1 a1 a2 w0_ w1_ w2_ w3_ w4_
 refine (laws_FnExactFirstSlides.calls k A0_0 c0_0 l0_0 A0_1 c0_1 l0_1 a1 a2 true w hr0_0 hc0_0 hr0_1 hc0_1 h).mono ?_
 rintro e w' ⟨rfl, hd⟩
 exact ⟨rfl, hd⟩

end Go.Proofs.Ytehhfcbhoaocdaa.PF
