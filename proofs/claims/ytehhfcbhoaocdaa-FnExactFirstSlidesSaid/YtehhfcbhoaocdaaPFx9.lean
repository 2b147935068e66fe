-- written by a program of this session's (wip/tools), over the kit's print
import Derived.Test.YtehhfcbhoaocdaaPFx0
import Derived.Test.YtehhfcbhoaocdaaPFx2
import Derived.Test.YtehhfcbhoaocdaaPFx4
import Derived.Test.YtehhfcbhoaocdaaPFx5
import Derived.Test.YtehhfcbhoaocdaaPFx8
-- squeezed
-- squeezed twice
namespace Go.Proofs.Ytehhfcbhoaocdaa.PF
open Go.RowKit Go.Proofs.YtehhfcbhoaocdaaW.PrintWords Go.Proofs.YtehhfcbhoaocdaaW.PrintLast Go.Proofs.YtehhfcbhoaocdaaW.PrintMore
attribute [local go_sem] max2_int min2_int max_two min_two max_three min_three max_four min_four   -- for this text's walks alone
set_option linter.unusedVariables false
set_option linter.unusedSimpArgs false

/-! ### spec_FirstSlides: function 10 -/
mutual
def spec_FirstSlides.l0 : Nat → ByteArray → List Int → Int → List (S62) → List Int → List (S77) → Option ((List (S62)) × Bool)
 | 0, _, _, _, _, _, _ => none
 | k + 1, x1, x8, x10, x11, x225000, x225001 => if x10 > 0 then ((spec_boSlides.f k x225000 x225001 x1).bind fun t234 => (spec_FirstSlides.l1 k x1 x8 x10 x11 t234 (t234.length : Int) 0 x225000 x225001)) else (some (x11, true))
def spec_FirstSlides.l1 : Nat → ByteArray → List Int → Int → List (S62) → List (S62) → Int → Int → List Int → List (S77) → Option ((List (S62)) × Bool)
 | 0, _, _, _, _, _, _, _, _, _ => none
 | k + 1, x1, x8, x10, x11, x41, x42, x43, x225000, x225001 => if x43 < x42 then (if 0 ≤ x43 then (if x43 < (x41.length : Int) then ((spec_boPut.f k x225000 x225001 x1 ((rd_T62 x41 x43).f0) ((rd_T62 x41 x43).f1)).bind fun bt239 => ((spec_boNumber.f k x225000 x225001 bt239.1).bind fun t241 => (if 0 ≤ t241 then (if t241 < (x8.length : Int) then (if (rd x8 t241) = (wrap64 (x10 - 1)) then (if x11.length < 8796093022208 then (spec_FirstSlides.l0 k bt239.1 x8 (wrap64 (x10 - 1)) (x11 ++ [(⟨(rd_T62 x41 x43).f0, (rd_T62 x41 x43).f1⟩ : S62)]) x225000 x225001) else (none)) else (spec_FirstSlides.l1 k x1 x8 x10 x11 x41 x42 (wrap64 (x43 + 1)) x225000 x225001)) else (none)) else (none)))) else (none)) else (none)) else (spec_FirstSlides.l0 k x1 x8 (wrap64 (x10 - 1)) x11 x225000 x225001)
end
def spec_FirstSlides.f (k : Nat) (l0_0 : List Int) (l0_1 : List (S77)) (a1 : ByteArray) (a2 : ByteArray) : Option ((List (S62)) × Bool) := (spec_boTwo.f k l0_0 l0_1 a1 a2).bind fun t225 => (if t225 = true then ((spec_boFar.f k l0_0 l0_1 a2).bind fun bt226 => ((spec_boNumber.f k l0_0 l0_1 a1).bind fun t232 => (if 0 ≤ t232 then (if t232 < (bt226.1.length : Int) then (if (rd bt226.1 t232) < 0 then (some (([] : List (S62)), false)) else (spec_FirstSlides.l0 k a1 bt226.1 (rd bt226.1 t232) ([] : List (S62)) l0_0 l0_1)) else (none)) else (none)))) else (some (([] : List (S62)), false)))
theorem spec_FirstSlides.mono_l : ∀ k, (∀ y0 y1 y2 y3 y4 y5, LeO (spec_FirstSlides.l0 k y0 y1 y2 y3 y4 y5) (spec_FirstSlides.l0 (k + 1) y0 y1 y2 y3 y4 y5)) ∧ (∀ y0 y1 y2 y3 y4 y5 y6 y7 y8, LeO (spec_FirstSlides.l1 k y0 y1 y2 y3 y4 y5 y6 y7 y8) (spec_FirstSlides.l1 (k + 1) y0 y1 y2 y3 y4 y5 y6 y7 y8))
 | 0 => ⟨fun _ _ _ _ _ _ r h => by simp [spec_FirstSlides.l0] at h, fun _ _ _ _ _ _ _ _ _ r h => by simp [spec_FirstSlides.l1] at h⟩
 | k + 1 => by
  obtain ⟨ih0, ih1⟩ := spec_FirstSlides.mono_l k
  refine ⟨?_, ?_⟩
  ·intro y0 y1 y2 y3 y4 y5
   unfold spec_FirstSlides.l0
   repeat' first
   | (with_reducible exact ih0 _ _ _ _ _ _)
   | (with_reducible exact ih1 _ _ _ _ _ _ _ _ _)
   | (with_reducible exact spec_boFar.mono _ _ _ _)
   | (with_reducible exact spec_boNumber.mono _ _ _ _)
   | (with_reducible exact spec_boPut.mono _ _ _ _ _ _)
   | (with_reducible exact spec_boSlides.mono _ _ _ _)
   | (with_reducible exact spec_boTwo.mono _ _ _ _ _)
   | (with_reducible exact LeO.refl _)
   | (with_reducible exact LeO.none _)
   | (with_reducible refine LeO.ite ?_ ?_)
   | (with_reducible refine LeO.bind ?_ (fun _ => ?_))
   | exact ih0 _ _ _ _ _ _
   | exact ih1 _ _ _ _ _ _ _ _ _
   | exact spec_boFar.mono _ _ _ _
   | exact spec_boNumber.mono _ _ _ _
   | exact spec_boPut.mono _ _ _ _ _ _
   | exact spec_boSlides.mono _ _ _ _
   | exact spec_boTwo.mono _ _ _ _ _
   | exact LeO.none _
   | refine LeO.ite ?_ ?_
   | refine LeO.bind ?_ (fun _ => ?_)
  ·intro y0 y1 y2 y3 y4 y5 y6 y7 y8
   unfold spec_FirstSlides.l1
   repeat' first
   | (with_reducible exact ih0 _ _ _ _ _ _)
   | (with_reducible exact ih1 _ _ _ _ _ _ _ _ _)
   | (with_reducible exact spec_boFar.mono _ _ _ _)
   | (with_reducible exact spec_boNumber.mono _ _ _ _)
   | (with_reducible exact spec_boPut.mono _ _ _ _ _ _)
   | (with_reducible exact spec_boSlides.mono _ _ _ _)
   | (with_reducible exact spec_boTwo.mono _ _ _ _ _)
   | (with_reducible exact LeO.refl _)
   | (with_reducible exact LeO.none _)
   | (with_reducible refine LeO.ite ?_ ?_)
   | (with_reducible refine LeO.bind ?_ (fun _ => ?_))
   | exact ih0 _ _ _ _ _ _
   | exact ih1 _ _ _ _ _ _ _ _ _
   | exact spec_boFar.mono _ _ _ _
   | exact spec_boNumber.mono _ _ _ _
   | exact spec_boPut.mono _ _ _ _ _ _
   | exact spec_boSlides.mono _ _ _ _
   | exact spec_boTwo.mono _ _ _ _ _
   | exact LeO.none _
   | refine LeO.ite ?_ ?_
   | refine LeO.bind ?_ (fun _ => ?_)
theorem spec_FirstSlides.mono : ∀ a0 a1 a2 a3 k, LeO (spec_FirstSlides.f k a0 a1 a2 a3) (spec_FirstSlides.f (k + 1) a0 a1 a2 a3) := by
 intro a0 a1 a2 a3 k
 obtain ⟨ih0, ih1⟩ := spec_FirstSlides.mono_l k
 unfold spec_FirstSlides.f
 repeat' first
   | (with_reducible exact ih0 _ _ _ _ _ _)
   | (with_reducible exact ih1 _ _ _ _ _ _ _ _ _)
   | (with_reducible exact spec_boFar.mono _ _ _ _)
   | (with_reducible exact spec_boNumber.mono _ _ _ _)
   | (with_reducible exact spec_boPut.mono _ _ _ _ _ _)
   | (with_reducible exact spec_boSlides.mono _ _ _ _)
   | (with_reducible exact spec_boTwo.mono _ _ _ _ _)
   | (with_reducible exact LeO.refl _)
   | (with_reducible exact LeO.none _)
   | (with_reducible refine LeO.ite ?_ ?_)
   | (with_reducible refine LeO.bind ?_ (fun _ => ?_))
   | exact ih0 _ _ _ _ _ _
   | exact ih1 _ _ _ _ _ _ _ _ _
   | exact spec_boFar.mono _ _ _ _
   | exact spec_boNumber.mono _ _ _ _
   | exact spec_boPut.mono _ _ _ _ _ _
   | exact spec_boSlides.mono _ _ _ _
   | exact spec_boTwo.mono _ _ _ _ _
   | exact LeO.none _
   | refine LeO.ite ?_ ?_
   | refine LeO.bind ?_ (fun _ => ?_)
set_option maxHeartbeats 8000000 in
set_option maxRecDepth 100000 in
theorem spec_FirstSlides.calls (k : Nat) (A0_0 : Option Addr) (c0_0 : Nat) (l0_0 : List Int) (A0_1 : Option Addr) (c0_1 : Nat) (l0_1 : List (S77)) (a1 : ByteArray) (a2 : ByteArray) (r1 : List (S62)) (r2 : Bool) (w : World) (hr0_0 : Kd.C (Kd.int .i64) w A0_0 l0_0.length l0_0) (hc0_0 : l0_0.length ≤ c0_0) (hr0_1 : Kd.C k77 w A0_1 l0_1.length l0_1) (hc0_1 : l0_1.length ≤ c0_1) (h : spec_FirstSlides.f k l0_0 l0_1 a1 a2 = some (r1, r2)) :
  Calls Try.prog 10 #[.agg #[.slice A0_0 l0_0.length c0_0, .slice A0_1 l0_1.length c0_1], .string a1, .string a2] w fun e w' => ∃ v0_ : Value, e = .returned (.tuple #[v0_, .bool r2]) ∧ Kd.R k62 62 w' w.heap.size (fun _ => True) v0_ r1 ∧ Below w.heap.size w w' := by
 have hu31 := Try.underlying31
 have hu62 := Try.underlying62
 have HR0_0 := aM hr0_0
 have HC0_0 := aM hc0_0
 clear hr0_0 hc0_0
 have HR0_1 := aM hr0_1
 have HC0_1 := aM hc0_1
 clear hr0_1 hc0_1
 have HB := aM (Below.refl w.heap.size w)
 have H : ((spec_boTwo.f k l0_0 l0_1 a1 a2).bind fun t225 => (if t225 = true then ((spec_boFar.f k l0_0 l0_1 a2).bind fun bt226 => ((spec_boNumber.f k l0_0 l0_1 a1).bind fun t232 => (if 0 ≤ t232 then (if t232 < (bt226.1.length : Int) then (if (rd bt226.1 t232) < 0 then (some (([] : List (S62)), false)) else (spec_FirstSlides.l0 k a1 bt226.1 (rd bt226.1 t232) ([] : List (S62)) l0_0 l0_1)) else (none)) else (none)))) else (some (([] : List (S62)), false)))) = some (r1, r2) := h
 clear h
 replace H := Option.bind_eq_some_iff.mp H
 obtain ⟨t225, A40, H⟩ := H
 replace H : (if t225 = true then ((spec_boFar.f k l0_0 l0_1 a2).bind fun bt226 => ((spec_boNumber.f k l0_0 l0_1 a1).bind fun t232 => (if 0 ≤ t232 then (if t232 < (bt226.1.length : Int) then (if (rd bt226.1 t232) < 0 then (some (([] : List (S62)), false)) else (spec_FirstSlides.l0 k a1 bt226.1 (rd bt226.1 t232) ([] : List (S62)) l0_0 l0_1)) else (none)) else (none)))) else (some (([] : List (S62)), false))) = some (r1, r2) := H
 have A4 := aM A40
 clear A40
 by_cases c5 : t225 = true
 ·subst c5
  have H1 : ((spec_boFar.f k l0_0 l0_1 a2).bind fun bt226 => ((spec_boNumber.f k l0_0 l0_1 a1).bind fun t232 => (if 0 ≤ t232 then (if t232 < (bt226.1.length : Int) then (if (rd bt226.1 t232) < 0 then (some (([] : List (S62)), false)) else (spec_FirstSlides.l0 k a1 bt226.1 (rd bt226.1 t232) ([] : List (S62)) l0_0 l0_1)) else (none)) else (none)))) = some (r1, r2) := by rw [if_pos rfl] at H; exact H
  clear H; have H := H1; clear H1
  replace H := Option.bind_eq_some_iff.mp H
  obtain ⟨⟨t226, t229⟩, A60, H⟩ := H
  replace H : ((spec_boNumber.f k l0_0 l0_1 a1).bind fun t232 => (if 0 ≤ t232 then (if t232 < (t226.length : Int) then (if (rd t226 t232) < 0 then (some (([] : List (S62)), false)) else (spec_FirstSlides.l0 k a1 t226 (rd t226 t232) ([] : List (S62)) l0_0 l0_1)) else (none)) else (none))) = some (r1, r2) := H
  have A6 := aM A60
  clear A60
  replace H := Option.bind_eq_some_iff.mp H
  obtain ⟨t232, A70, H⟩ := H
  replace H : (if 0 ≤ t232 then (if t232 < (t226.length : Int) then (if (rd t226 t232) < 0 then (some (([] : List (S62)), false)) else (spec_FirstSlides.l0 k a1 t226 (rd t226 t232) ([] : List (S62)) l0_0 l0_1)) else (none)) else (none)) = some (r1, r2) := H
  have A7 := aM A70
  clear A70
  by_cases c8 : 0 ≤ t232
  ·rw [if_pos c8] at H
   have c8b0 : decide (0 ≤ t232) = true := decide_eq_true c8
   clear c8
   by_cases c9 : t232 < (t226.length : Int)
   ·rw [if_pos c9] at H
    have c9b0 : decide (t232 < (t226.length : Int)) = true := decide_eq_true c9
    clear c9
    by_cases c10 : (rd t226 t232) < 0
    ·rw [if_pos c10] at H
     have c10b0 : decide ((rd t226 t232) < 0) = true := decide_eq_true c10
     clear c10
     simp only [Option.some.injEq, Prod.mk.injEq] at H
     obtain ⟨rfl, rfl⟩ := H
     go_enter Try.func10, Try.ntmps10
     go_wp2_with (first | ((with_reducible refine gate_dst (N := 3) rfl ?_); refine box_event ?hg (N := 3) ?hd (cs := #[.slice A0_0 l0_0.length c0_0, .slice A0_1 l0_1.length c0_1]) (t := 31) ?hr ?_; (case hd => rfl); (case hg => rfl); (case hr => go_simp); intro gb224 hg w11 hbox hb; have BK224 := aM (hbox); have GW224 := aM ((by rw [hg]; exact (below_size HB.out) : w.heap.size ≤ gb224)); replace HB := aM (below_step HB.out hb); have GE224 := GW224; clear hb hbox hg; have hcz12_0 : w11.cell? ⟨gb224, 0, none⟩ = some (.slice A0_0 l0_0.length c0_0) := (blk_cell BK224.out 0).trans rfl; have hcz12_1 : w11.cell? ⟨gb224, 1, none⟩ = some (.slice A0_1 l0_1.length c0_1) := (blk_cell BK224.out 1).trans rfl; have hfz12_0 := blk_frozen BK224.out 0; have hfz12_1 := blk_frozen BK224.out 1) | ((with_reducible refine gate_callee (f := 31) rfl ?_); refine goesL_ (some 19) rfl rfl Try.func31 (by kernel_rfl) rfl #[.agg #[.slice A0_0 l0_0.length c0_0, .slice A0_1 l0_1.length c0_1], .string a1, .string a2] rfl (by simp only [mA, mB, mC]; all_goals rfl) ?_; (with_reducible refine (spec_boTwo.calls k _ _ l0_0 _ _ l0_1 a1 a2 true _ ?side1 ?side2 ?side3 ?side4 A4.out).mono ?_); (case side1 => exact Kd.C_below HR0_0.out HB.out); (case side2 => exact HC0_0.out); (case side3 => exact Kd.C_below HR0_1.out HB.out); (case side4 => exact HC0_1.out); rintro e w13 ⟨rfl, hb⟩; refine ⟨_, rfl, ?_⟩; replace BK224 := aM (blk_below (g := gb224) (o := .cells #[.slice A0_0 l0_0.length c0_0, .slice A0_1 l0_1.length c0_1] 31 (0, 0)) BK224.out hb); replace HB := aM (below_step HB.out hb); (try clear hb); have hcz14_0 : w13.cell? ⟨gb224, 0, none⟩ = some (.slice A0_0 l0_0.length c0_0) := (blk_cell BK224.out 0).trans rfl; have hcz14_1 : w13.cell? ⟨gb224, 1, none⟩ = some (.slice A0_1 l0_1.length c0_1) := (blk_cell BK224.out 1).trans rfl; have hfz14_0 := blk_frozen BK224.out 0; have hfz14_1 := blk_frozen BK224.out 1) | ((with_reducible refine gate_callee (f := 22) rfl ?_); refine goesL_ (some 24) rfl rfl Try.func22 (by kernel_rfl) rfl #[.agg #[.slice A0_0 l0_0.length c0_0, .slice A0_1 l0_1.length c0_1], .string a2] rfl (by simp only [mA, mB, mC]; all_goals rfl) ?_; (with_reducible refine (spec_boFar.calls k _ _ l0_0 _ _ l0_1 a2 t226 t229 _ ?side1 ?side2 ?side3 ?side4 A6.out).mono ?_); (case side1 => exact Kd.C_below HR0_0.out HB.out); (case side2 => exact HC0_0.out); (case side3 => exact Kd.C_below HR0_1.out HB.out); (case side4 => exact HC0_1.out); rintro e w15 ⟨v227, v230, rfl, ho0, ho1, hb⟩; refine ⟨_, rfl, ?_⟩; have HO228 := aM (Kd.R_lower ho0 (below_size HB.out)); have HO231 := aM (Kd.R_lower ho1 (below_size HB.out)); replace BK224 := aM (blk_below (g := gb224) (o := .cells #[.slice A0_0 l0_0.length c0_0, .slice A0_1 l0_1.length c0_1] 31 (0, 0)) BK224.out hb); replace HB := aM (below_step HB.out hb); (try clear hb); (try clear ho0); (try clear ho1); have hcz16_0 : w15.cell? ⟨gb224, 0, none⟩ = some (.slice A0_0 l0_0.length c0_0) := (blk_cell BK224.out 0).trans rfl; have hcz16_1 : w15.cell? ⟨gb224, 1, none⟩ = some (.slice A0_1 l0_1.length c0_1) := (blk_cell BK224.out 1).trans rfl; have hfz16_0 := blk_frozen BK224.out 0; have hfz16_1 := blk_frozen BK224.out 1) | ((with_reducible refine gate_callee (f := 21) rfl ?_); refine goesL_ (some 30) rfl rfl Try.func21 (by kernel_rfl) rfl #[.agg #[.slice A0_0 l0_0.length c0_0, .slice A0_1 l0_1.length c0_1], .string a1] rfl (by simp only [mA, mB, mC]; all_goals rfl) ?_; (with_reducible refine (spec_boNumber.calls k _ _ l0_0 _ _ l0_1 a1 t232 _ ?side1 ?side2 ?side3 ?side4 A7.out).mono ?_); (case side1 => exact Kd.C_below HR0_0.out HB.out); (case side2 => exact HC0_0.out); (case side3 => exact Kd.C_below HR0_1.out HB.out); (case side4 => exact HC0_1.out); rintro e w17 ⟨rfl, hb⟩; refine ⟨_, rfl, ?_⟩; replace HO228 := aM (Kd.R_below HO228.out hb); replace HO231 := aM (Kd.R_below HO231.out hb); replace BK224 := aM (blk_below (g := gb224) (o := .cells #[.slice A0_0 l0_0.length c0_0, .slice A0_1 l0_1.length c0_1] 31 (0, 0)) BK224.out hb); replace HB := aM (below_step HB.out hb); (try clear hb); obtain ⟨Ao18, co18, eo18⟩ := Kd.R_slice HO228.out; subst eo18; have p233 : 0 ≤ (t232 : Int) := oT (by assumption); have q233 : t232 < (t226.length : Int) := oT (by assumption); obtain ⟨ad233, e233, hx233_0⟩ := Kd.at_int (Kd.R_reads' HO228.out).2.2 t232 p233 q233; cases e233; replace p233 := eq_true p233; replace q233 := eq_true q233))
     go_ret2
     exact ⟨_, rfl, by first | exact Kd.R_nil _ _ _ _ _ | exact Kd.N_nil _ _ _ _ _ | exact Kd.V_nil _ _ _ _ _ | exact Kd.Q_nil _ _ _ _ _ | exact Kd.S_nil _ _ _ _ _, HB.out⟩
    ·rw [if_neg c10] at H
     have c10b0 : decide ((rd t226 t232) < 0) = false := decide_eq_false c10
     clear c10
     have H' := aM H
     clear H
     go_enter Try.func10, Try.ntmps10
     go_wp2_with (first | ((with_reducible refine gate_dst (N := 3) rfl ?_); refine box_event ?hg (N := 3) ?hd (cs := #[.slice A0_0 l0_0.length c0_0, .slice A0_1 l0_1.length c0_1]) (t := 31) ?hr ?_; (case hd => rfl); (case hg => rfl); (case hr => go_simp); intro gb224 hg w19 hbox hb; have BK224 := aM (hbox); have GW224 := aM ((by rw [hg]; exact (below_size HB.out) : w.heap.size ≤ gb224)); replace HB := aM (below_step HB.out hb); have GE224 := GW224; clear hb hbox hg; have hcz20_0 : w19.cell? ⟨gb224, 0, none⟩ = some (.slice A0_0 l0_0.length c0_0) := (blk_cell BK224.out 0).trans rfl; have hcz20_1 : w19.cell? ⟨gb224, 1, none⟩ = some (.slice A0_1 l0_1.length c0_1) := (blk_cell BK224.out 1).trans rfl; have hfz20_0 := blk_frozen BK224.out 0; have hfz20_1 := blk_frozen BK224.out 1) | ((with_reducible refine gate_callee (f := 31) rfl ?_); refine goesL_ (some 19) rfl rfl Try.func31 (by kernel_rfl) rfl #[.agg #[.slice A0_0 l0_0.length c0_0, .slice A0_1 l0_1.length c0_1], .string a1, .string a2] rfl (by simp only [mA, mB, mC]; all_goals rfl) ?_; (with_reducible refine (spec_boTwo.calls k _ _ l0_0 _ _ l0_1 a1 a2 true _ ?side1 ?side2 ?side3 ?side4 A4.out).mono ?_); (case side1 => exact Kd.C_below HR0_0.out HB.out); (case side2 => exact HC0_0.out); (case side3 => exact Kd.C_below HR0_1.out HB.out); (case side4 => exact HC0_1.out); rintro e w21 ⟨rfl, hb⟩; refine ⟨_, rfl, ?_⟩; replace BK224 := aM (blk_below (g := gb224) (o := .cells #[.slice A0_0 l0_0.length c0_0, .slice A0_1 l0_1.length c0_1] 31 (0, 0)) BK224.out hb); replace HB := aM (below_step HB.out hb); (try clear hb); have hcz22_0 : w21.cell? ⟨gb224, 0, none⟩ = some (.slice A0_0 l0_0.length c0_0) := (blk_cell BK224.out 0).trans rfl; have hcz22_1 : w21.cell? ⟨gb224, 1, none⟩ = some (.slice A0_1 l0_1.length c0_1) := (blk_cell BK224.out 1).trans rfl; have hfz22_0 := blk_frozen BK224.out 0; have hfz22_1 := blk_frozen BK224.out 1) | ((with_reducible refine gate_callee (f := 22) rfl ?_); refine goesL_ (some 24) rfl rfl Try.func22 (by kernel_rfl) rfl #[.agg #[.slice A0_0 l0_0.length c0_0, .slice A0_1 l0_1.length c0_1], .string a2] rfl (by simp only [mA, mB, mC]; all_goals rfl) ?_; (with_reducible refine (spec_boFar.calls k _ _ l0_0 _ _ l0_1 a2 t226 t229 _ ?side1 ?side2 ?side3 ?side4 A6.out).mono ?_); (case side1 => exact Kd.C_below HR0_0.out HB.out); (case side2 => exact HC0_0.out); (case side3 => exact Kd.C_below HR0_1.out HB.out); (case side4 => exact HC0_1.out); rintro e w23 ⟨v227, v230, rfl, ho0, ho1, hb⟩; refine ⟨_, rfl, ?_⟩; have HO228 := aM (Kd.R_lower ho0 (below_size HB.out)); have HO231 := aM (Kd.R_lower ho1 (below_size HB.out)); replace BK224 := aM (blk_below (g := gb224) (o := .cells #[.slice A0_0 l0_0.length c0_0, .slice A0_1 l0_1.length c0_1] 31 (0, 0)) BK224.out hb); replace HB := aM (below_step HB.out hb); (try clear hb); (try clear ho0); (try clear ho1); have hcz24_0 : w23.cell? ⟨gb224, 0, none⟩ = some (.slice A0_0 l0_0.length c0_0) := (blk_cell BK224.out 0).trans rfl; have hcz24_1 : w23.cell? ⟨gb224, 1, none⟩ = some (.slice A0_1 l0_1.length c0_1) := (blk_cell BK224.out 1).trans rfl; have hfz24_0 := blk_frozen BK224.out 0; have hfz24_1 := blk_frozen BK224.out 1) | ((with_reducible refine gate_callee (f := 21) rfl ?_); refine goesL_ (some 30) rfl rfl Try.func21 (by kernel_rfl) rfl #[.agg #[.slice A0_0 l0_0.length c0_0, .slice A0_1 l0_1.length c0_1], .string a1] rfl (by simp only [mA, mB, mC]; all_goals rfl) ?_; (with_reducible refine (spec_boNumber.calls k _ _ l0_0 _ _ l0_1 a1 t232 _ ?side1 ?side2 ?side3 ?side4 A7.out).mono ?_); (case side1 => exact Kd.C_below HR0_0.out HB.out); (case side2 => exact HC0_0.out); (case side3 => exact Kd.C_below HR0_1.out HB.out); (case side4 => exact HC0_1.out); rintro e w25 ⟨rfl, hb⟩; refine ⟨_, rfl, ?_⟩; replace HO228 := aM (Kd.R_below HO228.out hb); replace HO231 := aM (Kd.R_below HO231.out hb); replace BK224 := aM (blk_below (g := gb224) (o := .cells #[.slice A0_0 l0_0.length c0_0, .slice A0_1 l0_1.length c0_1] 31 (0, 0)) BK224.out hb); replace HB := aM (below_step HB.out hb); (try clear hb); obtain ⟨Ao26, co26, eo26⟩ := Kd.R_slice HO228.out; subst eo26; have p233 : 0 ≤ (t232 : Int) := oT (by assumption); have q233 : t232 < (t226.length : Int) := oT (by assumption); obtain ⟨ad233, e233, hx233_0⟩ := Kd.at_int (Kd.R_reads' HO228.out).2.2 t232 p233 q233; cases e233; replace p233 := eq_true p233; replace q233 := eq_true q233))
     go_loopg [1, 10, 11] k (fun kq v1 v10 v11 w' => ∃ (x1_1 : ByteArray) (x10_1 : Int) (x11_1 : List (S62)), v1 = .string x1_1 ∧ v10 = .int .i64 x10_1 ∧ Aside0 (spec_FirstSlides.l0 kq x1_1 t226 x10_1 x11_1 l0_0 l0_1 = some (r1, r2)) ∧ Aside0 (kq ≤ k) ∧ Aside0 (Kd.R (Kd.int .i64) 3 w' w.heap.size (fun _ => True) (.slice (some ad233) t226.length co26) t226) ∧ Aside0 (Kd.R k62 62 w' w.heap.size (fun _ => True) v11 x11_1) ∧ Aside0 (w'.heap[gb224]? = some (.cells #[(.slice A0_0 l0_0.length c0_0), (.slice A0_1 l0_1.length c0_1)] 31 (0, 0))) ∧ Aside0 (Below w.heap.size w w'))
     case atStart => exact ⟨(a1), (rd t226 t232), (([] : List (S62))), rfl, rfl, H', ⟨Nat.le_refl _⟩, HO228, ⟨by first | exact Kd.R_nil _ _ _ _ _ | exact Kd.N_nil _ _ _ _ _ | exact Kd.V_nil _ _ _ _ _ | exact Kd.Q_nil _ _ _ _ _ | exact Kd.S_nil _ _ _ _ _⟩, BK224, HB⟩
     case round =>
      clear H'
      try clear c1
      try clear c2
      try clear p2
      try clear q2
      try clear hx2
      try clear c3
      try clear c5
      try clear c8
      try clear c8b0
      try clear c9
      try clear c9b0
      try clear c10
      try clear c10b0
      try clear c21
      try clear c22
      try clear p23
      try clear q23
      try clear hx23
      try clear hcz12_0
      try clear hcz12_1
      try clear hcz14_0
      try clear hcz14_1
      try clear hcz16_0
      try clear hcz16_1
      try clear hcz20_0
      try clear hcz20_1
      try clear hcz22_0
      try clear hcz22_1
      try clear hcz24_0
      try clear hcz24_1
      try clear hfz12_0
      try clear hfz12_1
      try clear hfz14_0
      try clear hfz14_1
      try clear hfz16_0
      try clear hfz16_1
      try clear hfz20_0
      try clear hfz20_1
      try clear hfz22_0
      try clear hfz22_1
      try clear hfz24_0
      try clear hfz24_1
      try clear hx233_0
      try clear p233
      try clear q233
      obtain ⟨x1_1, x10_1, x11_1, rfl, rfl, HA, HK1, HO_8, HO_11, BK224, HB⟩ := hrel
      cases gk with
      | zero => exact absurd HA.out (by simp [spec_FirstSlides.l0])
      | succ k1 =>
       have H := HA.out
       clear HA
       simp only [spec_FirstSlides.l0] at H
       by_cases c27 : x10_1 > 0
       ·rw [if_pos c27] at H
        have c27b0 : decide (0 < x10_1) = true := decide_eq_true c27
        clear c27
        replace H := Option.bind_eq_some_iff.mp H
        obtain ⟨t234, A280, H⟩ := H
        replace H : (spec_FirstSlides.l1 k1 x1_1 t226 x10_1 x11_1 t234 (t234.length : Int) 0 l0_0 l0_1) = some (r1, r2) := H
        have A28 := aM A280
        clear A280
        have H' := aM H
        clear H
        have hcz29_0 : wr.cell? ⟨gb224, 0, none⟩ = some (.slice A0_0 l0_0.length c0_0) := (blk_cell BK224.out 0).trans rfl
        have hcz29_1 : wr.cell? ⟨gb224, 1, none⟩ = some (.slice A0_1 l0_1.length c0_1) := (blk_cell BK224.out 1).trans rfl
        have hfz29_0 := blk_frozen BK224.out 0
        have hfz29_1 := blk_frozen BK224.out 1
        go_wp2_with (first | ((with_reducible refine gate_callee (f := 32) rfl ?_); refine goesL_ (some 41) rfl rfl Try.func32 (by kernel_rfl) rfl #[.agg #[.slice A0_0 l0_0.length c0_0, .slice A0_1 l0_1.length c0_1], .string x1_1] rfl (by simp only [mA, mB, mC]; all_goals rfl) ?_; (with_reducible refine (spec_boSlides.calls k1 _ _ l0_0 _ _ l0_1 x1_1 t234 _ ?side1 ?side2 ?side3 ?side4 A28.out).mono ?_); (case side1 => exact Kd.C_below HR0_0.out HB.out); (case side2 => exact HC0_0.out); (case side3 => exact Kd.C_below HR0_1.out HB.out); (case side4 => exact HC0_1.out); rintro e w30 ⟨v235, rfl, ho0, hb⟩; refine ⟨_, rfl, ?_⟩; replace HO_8 := aM (Kd.R_below HO_8.out hb); have HO236 := aM (Kd.R_lower (Kd.R_new' ho0 (Kd.R_lt HO_11.out)) (below_size HB.out)); replace HO_11 := aM (Kd.R_elder' HO_11.out (Kd.R_base ho0) hb); replace BK224 := aM (blk_below (g := gb224) (o := .cells #[.slice A0_0 l0_0.length c0_0, .slice A0_1 l0_1.length c0_1] 31 (0, 0)) BK224.out hb); replace HB := aM (below_step HB.out hb); (try clear hb); (try clear ho0); obtain ⟨Ao31, co31, eo31⟩ := Kd.R_slice HO236.out; subst eo31))
        go_loopg [1, 11, 43] k1 (fun kq v1 v11 v43 w' => ∃ (x1_2 : ByteArray) (x11_2 : List (S62)) (x43_2 : Int), v1 = .string x1_2 ∧ v43 = .int .i64 x43_2 ∧ Aside0 (spec_FirstSlides.l1 kq x1_2 t226 x10_1 x11_2 t234 (t234.length : Int) x43_2 l0_0 l0_1 = some (r1, r2)) ∧ Aside0 (kq ≤ k1) ∧ Aside0 (Kd.R (Kd.int .i64) 3 w' w.heap.size (fun _ => True) (.slice (some ad233) t226.length co26) t226) ∧ Aside0 (Kd.R k62 62 w' w.heap.size (fun k_ => some k_ ≠ ((.slice Ao31 t234.length co31) : Value).ownBlock) v11 x11_2) ∧ Aside0 (Kd.R k62 62 w' w.heap.size (fun k_ => some k_ ≠ (v11 : Value).ownBlock) (.slice Ao31 t234.length co31) t234) ∧ Aside0 (w'.heap[gb224]? = some (.cells #[(.slice A0_0 l0_0.length c0_0), (.slice A0_1 l0_1.length c0_1)] 31 (0, 0))) ∧ Aside0 (Below w.heap.size w w'))
        case atStart => exact ⟨(x1_1), (x11_1), (0), rfl, rfl, H', ⟨Nat.le_refl _⟩, HO_8, ⟨by (with_reducible repeat (first | apply rA | apply rN | apply rD)); exact Kd.R_mono HO_11.out (fun _ hk => hk.2)⟩, ⟨by (with_reducible repeat (first | apply rA | apply rN | apply rD)); exact Kd.R_mono HO236.out (fun _ hk => hk.2)⟩, BK224, HB⟩
        case round =>
         clear H'
         try clear c1
         try clear c2
         try clear p2
         try clear q2
         try clear hx2
         try clear c3
         try clear c5
         try clear c8
         try clear c8b0
         try clear c9
         try clear c9b0
         try clear c10
         try clear c10b0
         try clear c21
         try clear c22
         try clear p23
         try clear q23
         try clear hx23
         try clear c27
         try clear c27b0
         try clear c31
         try clear hcz12_0
         try clear hcz12_1
         try clear hcz14_0
         try clear hcz14_1
         try clear hcz16_0
         try clear hcz16_1
         try clear hcz20_0
         try clear hcz20_1
         try clear hcz22_0
         try clear hcz22_1
         try clear hcz24_0
         try clear hcz24_1
         try clear hcz29_0
         try clear hcz29_1
         try clear hfz12_0
         try clear hfz12_1
         try clear hfz14_0
         try clear hfz14_1
         try clear hfz16_0
         try clear hfz16_1
         try clear hfz20_0
         try clear hfz20_1
         try clear hfz22_0
         try clear hfz22_1
         try clear hfz24_0
         try clear hfz24_1
         try clear hfz29_0
         try clear hfz29_1
         try clear hx233_0
         try clear p2
         try clear p23
         try clear p233
         try clear q2
         try clear q23
         try clear q233
         obtain ⟨x1_2, x11_2, x43_2, rfl, rfl, HA, HK2, HO_8, HO_11, HO_41, BK224, HB⟩ := hrel
         cases gk with
         | zero => exact absurd HA.out (by simp [spec_FirstSlides.l1])
         | succ k2 =>
          have H := HA.out
          clear HA
          simp only [spec_FirstSlides.l1] at H
          by_cases c32 : x43_2 < (t234.length : Int)
          ·rw [if_pos c32] at H
           have c32b0 : decide (x43_2 < (t234.length : Int)) = true := decide_eq_true c32
           clear c32
           by_cases c33 : 0 ≤ x43_2
           ·rw [if_pos c33] at H
            have c33b0 : decide (0 ≤ x43_2) = true := decide_eq_true c33
            clear c33
            by_cases c34 : x43_2 < (t234.length : Int)
            ·rw [if_pos c34] at H
             have c34b0 : decide (x43_2 < (t234.length : Int)) = true := decide_eq_true c34
             clear c34
             replace H := Option.bind_eq_some_iff.mp H
             obtain ⟨⟨t239, t240⟩, A350, H⟩ := H
             replace H : ((spec_boNumber.f k2 l0_0 l0_1 t239).bind fun t241 => (if 0 ≤ t241 then (if t241 < (t226.length : Int) then (if (rd t226 t241) = (wrap64 (x10_1 - 1)) then (if x11_2.length < 8796093022208 then (spec_FirstSlides.l0 k2 t239 t226 (wrap64 (x10_1 - 1)) (x11_2 ++ [(⟨(rd_T62 t234 x43_2).f0, (rd_T62 t234 x43_2).f1⟩ : S62)]) l0_0 l0_1) else (none)) else (spec_FirstSlides.l1 k2 x1_2 t226 x10_1 x11_2 t234 (t234.length : Int) (wrap64 (x43_2 + 1)) l0_0 l0_1)) else (none)) else (none))) = some (r1, r2) := H
             have A35 := aM A350
             clear A350
             replace H := Option.bind_eq_some_iff.mp H
             obtain ⟨t241, A360, H⟩ := H
             replace H : (if 0 ≤ t241 then (if t241 < (t226.length : Int) then (if (rd t226 t241) = (wrap64 (x10_1 - 1)) then (if x11_2.length < 8796093022208 then (spec_FirstSlides.l0 k2 t239 t226 (wrap64 (x10_1 - 1)) (x11_2 ++ [(⟨(rd_T62 t234 x43_2).f0, (rd_T62 t234 x43_2).f1⟩ : S62)]) l0_0 l0_1) else (none)) else (spec_FirstSlides.l1 k2 x1_2 t226 x10_1 x11_2 t234 (t234.length : Int) (wrap64 (x43_2 + 1)) l0_0 l0_1)) else (none)) else (none)) = some (r1, r2) := H
             have A36 := aM A360
             clear A360
             by_cases c37 : 0 ≤ t241
             ·rw [if_pos c37] at H
              have c37b0 : decide (0 ≤ t241) = true := decide_eq_true c37
              clear c37
              by_cases c38 : t241 < (t226.length : Int)
              ·rw [if_pos c38] at H
               have c38b0 : decide (t241 < (t226.length : Int)) = true := decide_eq_true c38
               clear c38
               by_cases c39 : (rd t226 t241) = (wrap64 (x10_1 - 1))
               ·rw [if_pos c39] at H
                have c39b0 : ((rd t226 t241) == (wrap64 (x10_1 - 1))) = true := beq_iff_eq.mpr c39
                have c39b1 : ((rd t226 t241) != (wrap64 (x10_1 - 1))) = false := bne_eq_false_iff_eq.mpr c39
                clear c39
                by_cases c40 : x11_2.length < 8796093022208
                ·rw [if_pos c40] at H
                 have LMc40 := aM c40
                 clear c40
                 obtain ⟨y243, hy243⟩ : ∃ y_ : List (S62), y_ = (x11_2 ++ [(⟨(rd_T62 t234 x43_2).f0, (rd_T62 t234 x43_2).f1⟩ : S62)]) := ⟨_, rfl⟩
                 replace H : (spec_FirstSlides.l0 k2 t239 t226 (wrap64 (x10_1 - 1)) y243 l0_0 l0_1) = some (r1, r2) := by first | (rw [hy243]; with_reducible exact H) | (have H2_ := (Option.bind_some _ _).symm.trans H; rw [hy243]; with_reducible exact H2_) | (have H2_ := (Option.bind_some _ _).symm.trans H; with_reducible exact H2_) | with_reducible exact H | (rw [hy243]; exact H) | exact H
                 have Ny243 := aM hy243
                 clear hy243
                 have H' := aM H
                 clear H
                 have p237 : 0 ≤ (x43_2 : Int) := oT (by assumption)
                 have q237 : x43_2 < (t234.length : Int) := oT (by assumption)
                 obtain ⟨ad237, e237, hx237_0, hx237_1⟩ := at_T62 (Kd.R_reads' HO_41.out).2.2 x43_2 p237 q237
                 cases e237
                 replace p237 := eq_true p237
                 replace q237 := eq_true q237
                 go_wp2_with (first | ((with_reducible refine gate_dst (N := 13) rfl ?_); refine box_event ?hg (N := 13) ?hd (cs := #[.int .i64 0, .int .i64 0]) (t := 62) ?hr ?_; (case hd => rfl); (case hg => rfl); (case hr => first | (go_simp; done) | (go_simp; rfl)); intro gb238 hg w41 hbox hb; have n0_ := aM (Kd.R_below (by (with_reducible repeat (first | apply rA | apply rN | apply rD)); exact HO_8.out) hb); have n1_ := aM (Kd.R_below (Kd.R_elderB (by (with_reducible repeat (first | apply rA | apply rN | apply rD)); exact HO_11.out) gb238 (Nat.le_of_eq hg.symm)) hb); have n2_ := aM (Kd.R_below (Kd.R_elderB (by (with_reducible repeat (first | apply rA | apply rN | apply rD)); exact HO_41.out) gb238 (Nat.le_of_eq hg.symm)) hb); have n3_ := aM (blk_below (g := gb224) (o := .cells #[.slice A0_0 l0_0.length c0_0, .slice A0_1 l0_1.length c0_1] 31 (0, 0)) (by (with_reducible repeat (first | refine kN ?_ _ | refine kD ?_ | refine kA ?_ _)); exact BK224.out) hb); have n4_ := aM (below_step (by repeat (first | (with_reducible first | exact HB.out | apply bA | apply bN | apply bD | refine bS ?_ GE224.out) | exact HB.out)) hb); have n5_ := aM (hbox); have n6_ := aM ((by rw [hg]; exact (below_size (by repeat (first | (with_reducible first | exact HB.out | apply bA | apply bN | apply bD | refine bS ?_ GE224.out) | exact HB.out))) : w.heap.size ≤ gb238)); have n7_ := aM ((by rw [hg]; exact (below_size (by repeat (first | (with_reducible first | exact HB.out | apply bA | apply bN | apply bD | refine bS ?_ GE224.out) | exact HB.out))) : w.heap.size ≤ gb238)); have n8_ := aM ((by rw [hg]; exact Nat.ne_of_lt (blk_lt (g := gb224) (o := .cells #[.slice A0_0 l0_0.length c0_0, .slice A0_1 l0_1.length c0_1] 31 (0, 0)) (by (with_reducible repeat (first | refine kN ?_ _ | refine kD ?_ | refine kA ?_ _)); exact BK224.out)) : gb224 ≠ gb238)); have n9_ := aM ((by rw [hg]; exact Nat.ne_of_gt (blk_lt (g := gb224) (o := .cells #[.slice A0_0 l0_0.length c0_0, .slice A0_1 l0_1.length c0_1] 31 (0, 0)) (by (with_reducible repeat (first | refine kN ?_ _ | refine kD ?_ | refine kA ?_ _)); exact BK224.out)) : gb238 ≠ gb224)); clear HO_8; clear HO_11; clear HO_41; clear BK224; clear HB; have HO_8 := n0_; have HO_11 := n1_; have HO_41 := n2_; have BK224 := n3_; have HB := n4_; have BK238 := n5_; have GW238 := n6_; have GE238 := n7_; have NB224_238 := n8_; have NB238_224 := n9_; clear n0_ n1_ n2_ n3_ n4_ n5_ n6_ n7_ n8_ n9_; clear hb hbox hg; have hnb42 := NB238_224.out; have hnc42 := NB224_238.out; have hcz43_0 : w41.cell? ⟨gb238, 0, none⟩ = some (.int .i64 0) := (blk_cell BK238.out 0).trans rfl; have hcz43_1 : w41.cell? ⟨gb238, 1, none⟩ = some (.int .i64 0) := (blk_cell BK238.out 1).trans rfl; have hfz43_0 := blk_frozen BK238.out 0; have hfz43_1 := blk_frozen BK238.out 1; have hcz44_0 : w41.cell? ⟨gb224, 0, none⟩ = some (.slice A0_0 l0_0.length c0_0) := (blk_cell BK224.out 0).trans rfl; have hcz44_1 : w41.cell? ⟨gb224, 1, none⟩ = some (.slice A0_1 l0_1.length c0_1) := (blk_cell BK224.out 1).trans rfl; have hfz44_0 := blk_frozen BK224.out 0; have hfz44_1 := blk_frozen BK224.out 1) | ((with_reducible refine gate_callee (f := 33) rfl ?_); refine goesL_ (some 51) rfl rfl Try.func33 (by kernel_rfl) rfl #[.agg #[.slice A0_0 l0_0.length c0_0, .slice A0_1 l0_1.length c0_1], .string x1_2, .agg #[.int .i64 ((rd_T62 t234 x43_2).f0), .int .i64 ((rd_T62 t234 x43_2).f1)]] rfl (by (try simp only [List.map_toArray, List.map_cons, List.map_nil]); first | done | rfl | (simp only [List.length_drop, List.length_take]; rfl)) ?_; (with_reducible refine (spec_boPut.calls k2 _ _ l0_0 _ _ l0_1 x1_2 ((rd_T62 t234 x43_2).f0) ((rd_T62 t234 x43_2).f1) t239 t240 _ ?side1 ?side2 ?side3 ?side4 A35.out).mono ?_); (case side1 => exact Kd.C_below HR0_0.out (by repeat (first | (with_reducible first | exact HB.out | apply bA | apply bN | apply bD | refine bS ?_ GE224.out | refine bS ?_ GE238.out) | exact HB.out))); (case side2 => exact HC0_0.out); (case side3 => exact Kd.C_below HR0_1.out (by repeat (first | (with_reducible first | exact HB.out | apply bA | apply bN | apply bD | refine bS ?_ GE224.out | refine bS ?_ GE238.out) | exact HB.out))); (case side4 => exact HC0_1.out); rintro e w45 ⟨rfl, hb⟩; refine ⟨_, rfl, ?_⟩; have n0_ := aM (Kd.R_below (by (with_reducible repeat (first | apply rA | apply rN | apply rD)); exact (Kd.R_mono (Kd.R_far (p := ⟨gb238, 1, none⟩) (Kd.R_far (p := ⟨gb238, 0, none⟩) (Kd.R_types HO_8.out BK238.out (by decide)) (fun _ hk => hk.2) (.int .i64 ((rd_T62 t234 x43_2).f0))) (fun _ hk => hk.2) (.int .i64 ((rd_T62 t234 x43_2).f1))) (fun _ h_ => h_.1))) hb); have n1_ := aM (Kd.R_below (by (with_reducible repeat (first | apply rA | apply rN | apply rD)); exact (Kd.R_mono (Kd.R_far (p := ⟨gb238, 1, none⟩) (Kd.R_far (p := ⟨gb238, 0, none⟩) (Kd.R_mono HO_11.out (fun k_ hk => (⟨hk, hk.2⟩ : _ ∧ k_ ≠ gb238))) (fun _ hk => hk.2) (.int .i64 ((rd_T62 t234 x43_2).f0))) (fun _ hk => hk.2) (.int .i64 ((rd_T62 t234 x43_2).f1))) (fun _ h_ => h_.1))) hb); have n2_ := aM (Kd.R_below (by (with_reducible repeat (first | apply rA | apply rN | apply rD)); exact (Kd.R_mono (Kd.R_far (p := ⟨gb238, 1, none⟩) (Kd.R_far (p := ⟨gb238, 0, none⟩) (Kd.R_mono HO_41.out (fun k_ hk => (⟨hk, hk.2⟩ : _ ∧ k_ ≠ gb238))) (fun _ hk => hk.2) (.int .i64 ((rd_T62 t234 x43_2).f0))) (fun _ hk => hk.2) (.int .i64 ((rd_T62 t234 x43_2).f1))) (fun _ h_ => h_.1))) hb); have n3_ := aM (blk_below (g := gb224) (o := .cells #[.slice A0_0 l0_0.length c0_0, .slice A0_1 l0_1.length c0_1] 31 (0, 0)) (by (with_reducible repeat (first | refine kN ?_ _ | refine kD ?_ | refine kA ?_ _)); refine blk_far ?_ NB224_238.out _; (with_reducible repeat (first | refine kN ?_ _ | refine kD ?_ | refine kA ?_ _)); refine blk_far ?_ NB224_238.out _; (with_reducible repeat (first | refine kN ?_ _ | refine kD ?_ | refine kA ?_ _)); exact BK224.out) hb); have n4_ := aM (blk_below (g := gb238) (o := .cells #[.int .i64 ((rd_T62 t234 x43_2).f0), .int .i64 ((rd_T62 t234 x43_2).f1)] 62 (0, 0)) (by (with_reducible repeat (first | refine kN ?_ _ | refine kD ?_ | refine kA ?_ _)); refine blk_put (cs := #[.int .i64 ((rd_T62 t234 x43_2).f0), .int .i64 0]) ?_ 1 _ rfl; (with_reducible repeat (first | refine kN ?_ _ | refine kD ?_ | refine kA ?_ _)); refine blk_put (cs := #[.int .i64 0, .int .i64 0]) ?_ 0 _ rfl; (with_reducible repeat (first | refine kN ?_ _ | refine kD ?_ | refine kA ?_ _)); exact BK238.out) hb); have n5_ := aM (below_step (by repeat (first | (with_reducible first | exact HB.out | apply bA | apply bN | apply bD | refine bS ?_ GE224.out | refine bS ?_ GE238.out) | exact HB.out)) hb); clear HO_8; clear HO_11; clear HO_41; clear BK224; clear BK238; clear HB; have HO_8 := n0_; have HO_11 := n1_; have HO_41 := n2_; have BK224 := n3_; have BK238 := n4_; have HB := n5_; clear n0_ n1_ n2_ n3_ n4_ n5_; (try clear hb); (try clear hb2); (try clear hk); (try clear hi); have hcz46_0 : w45.cell? ⟨gb224, 0, none⟩ = some (.slice A0_0 l0_0.length c0_0) := (blk_cell BK224.out 0).trans rfl; have hcz46_1 : w45.cell? ⟨gb224, 1, none⟩ = some (.slice A0_1 l0_1.length c0_1) := (blk_cell BK224.out 1).trans rfl; have hfz46_0 := blk_frozen BK224.out 0; have hfz46_1 := blk_frozen BK224.out 1) | ((with_reducible refine gate_callee (f := 21) rfl ?_); refine goesL_ (some 57) rfl rfl Try.func21 (by kernel_rfl) rfl #[.agg #[.slice A0_0 l0_0.length c0_0, .slice A0_1 l0_1.length c0_1], .string t239] rfl (by (try simp only [List.map_toArray, List.map_cons, List.map_nil]); first | done | rfl | (simp only [List.length_drop, List.length_take]; rfl)) ?_; (with_reducible refine (spec_boNumber.calls k2 _ _ l0_0 _ _ l0_1 t239 t241 _ ?side1 ?side2 ?side3 ?side4 A36.out).mono ?_); (case side1 => repeat (first | exact (Kd.C_below HR0_0.out HB.out) | (with_reducible refine cA ?_ _) | (with_reducible refine cN ?_ _) | (with_reducible refine cD ?_))); (case side2 => exact HC0_0.out); (case side3 => repeat (first | exact (Kd.C_below HR0_1.out HB.out) | (with_reducible refine cA ?_ _) | (with_reducible refine cN ?_ _) | (with_reducible refine cD ?_))); (case side4 => exact HC0_1.out); rintro e w47 ⟨rfl, hb⟩; refine ⟨_, rfl, ?_⟩; have n0_ := aM (Kd.R_below (by (with_reducible repeat (first | apply rA | apply rN | apply rD)); exact HO_8.out) hb); have n1_ := aM (Kd.R_below (by (with_reducible repeat (first | apply rA | apply rN | apply rD)); exact HO_11.out) hb); have n2_ := aM (Kd.R_below (by (with_reducible repeat (first | apply rA | apply rN | apply rD)); exact HO_41.out) hb); have n3_ := aM (blk_below (g := gb224) (o := .cells #[.slice A0_0 l0_0.length c0_0, .slice A0_1 l0_1.length c0_1] 31 (0, 0)) (by (with_reducible repeat (first | refine kN ?_ _ | refine kD ?_ | refine kA ?_ _)); exact BK224.out) hb); have n4_ := aM (blk_below (g := gb238) (o := .cells #[.int .i64 ((rd_T62 t234 x43_2).f0), .int .i64 ((rd_T62 t234 x43_2).f1)] 62 (0, 0)) (by (with_reducible repeat (first | refine kN ?_ _ | refine kD ?_ | refine kA ?_ _)); exact BK238.out) hb); have n5_ := aM (below_step (by repeat (first | (with_reducible first | exact HB.out | apply bA | apply bN | apply bD | refine bS ?_ GE224.out | refine bS ?_ GE238.out) | exact HB.out)) hb); clear HO_8; clear HO_11; clear HO_41; clear BK224; clear BK238; clear HB; have HO_8 := n0_; have HO_11 := n1_; have HO_41 := n2_; have BK224 := n3_; have BK238 := n4_; have HB := n5_; clear n0_ n1_ n2_ n3_ n4_ n5_; (try clear hb); (try clear hb2); (try clear hk); (try clear hi); have p242 : 0 ≤ (t241 : Int) := of_decide_eq_true (by first | (with_reducible assumption) | assumption); have q242 : t241 < (t226.length : Int) := of_decide_eq_true (by first | (with_reducible assumption) | assumption); obtain ⟨ad242, e242, hx242_0⟩ := Kd.at_int (Kd.R_reads' HO_8.out).2.2 t241 p242 q242; obtain rfl : ad233 = ad242 := (by injection e242); replace p242 := eq_true p242; replace q242 := eq_true q242; have hcz48_0 : w47.cell? ⟨gb238, 0, none⟩ = some (.int .i64 ((rd_T62 t234 x43_2).f0)) := (blk_cell BK238.out 0).trans rfl; have hcz48_1 : w47.cell? ⟨gb238, 1, none⟩ = some (.int .i64 ((rd_T62 t234 x43_2).f1)) := (blk_cell BK238.out 1).trans rfl; have hfz48_0 := blk_frozen BK238.out 0; have hfz48_1 := blk_frozen BK238.out 1) | ((with_reducible refine gate_builtin (b := .append) (xs := #[.tmp 63, .tmp 65]) rfl ?_); at_builtin; refine Kd.R_append k62 (w0 := w) w.heap.size rfl (.tmp 63) (.tmp 65) 35 62 (.agg #[(.int .i64 0), (.int .i64 0)]) 16 rfl Try.underlying35 info62 rfl (by decide) (by omega) u11 x11_2 (⟨(rd_T62 t234 x43_2).f0, (rd_T62 t234 x43_2).f1⟩ : S62) [.int .i64 ((rd_T62 t234 x43_2).f0), .int .i64 ((rd_T62 t234 x43_2).f1)] (fun k_ => some k_ ≠ (.slice (some ad237) t234.length co31 : Value).ownBlock ∧ k_ ≠ gb238) (fun _ => False) rfl rfl ?aP (fun _ hk => hk.elim) ?aF ?aO ?aB ?aS ?aL ?_; (case aP => exact k62_mkM _ _ _ (⟨(rd_T62 t234 x43_2).f0, (rd_T62 t234 x43_2).f1⟩ : S62)); (case aB => exact (by repeat (first | (with_reducible first | exact HB.out | apply bA | apply bN | apply bD | refine bS ?_ GE224.out | refine bS ?_ GE238.out) | exact HB.out))); (case aF => exact (fun k_ hk => ⟨Kd.fresh' (Kd.R_lt (by (with_reducible repeat (first | apply rA | apply rN | apply rD)); exact HO_41.out)) k_ hk, Kd.freshB (g := gb238) (o := .cells #[.int .i64 ((rd_T62 t234 x43_2).f0), .int .i64 ((rd_T62 t234 x43_2).f1)] 62 (0, 0)) (by (with_reducible repeat (first | refine kN ?_ _ | refine kD ?_ | refine kA ?_ _)); exact BK238.out) k_ hk⟩)); (case aO => exact (by (with_reducible repeat (first | apply rA | apply rN | apply rD)); exact HO_11.out)); (case aS => exact (below_size (by repeat (first | (with_reducible first | exact HB.out | apply bA | apply bN | apply bD | refine bS ?_ GE224.out | refine bS ?_ GE238.out) | exact HB.out)))); (case aL => have := LMc40.out; omega); intro v244 w49 ho hb hg hat; rw [← Ny243.out] at ho; have n0_ := aM (Kd.R_over' (by (with_reducible repeat (first | apply rA | apply rN | apply rD)); exact HO_8.out) (Kd.R_typed (by (with_reducible repeat (first | apply rA | apply rN | apply rD)); exact HO_11.out)) (by decide) hg); have n1_ := aM (Kd.R_after (ok := (fun k_ => k_ ≠ gb238)) (by (with_reducible repeat (first | apply rA | apply rN | apply rD)); exact Kd.R_mono HO_41.out (fun _ hk => ⟨hk.2, hk.1⟩)) hg hat); have n2_ := aM (blk_grown (g := gb224) (o := .cells #[.slice A0_0 l0_0.length c0_0, .slice A0_1 l0_1.length c0_1] 31 (0, 0)) (by (with_reducible repeat (first | refine kN ?_ _ | refine kD ?_ | refine kA ?_ _)); exact BK224.out) hg (Kd.R_ne HO_11.out BK224.out (by decide))); have n3_ := aM (blk_grown (g := gb238) (o := .cells #[.int .i64 ((rd_T62 t234 x43_2).f0), .int .i64 ((rd_T62 t234 x43_2).f1)] 62 (0, 0)) (by (with_reducible repeat (first | refine kN ?_ _ | refine kD ?_ | refine kA ?_ _)); exact BK238.out) hg (Kd.R_away HO_11.out (fun _ hk => hk.2))); have n4_ := aM (hb); have n5_ := aM (ho); clear HO_8; clear HO_41; clear BK224; clear BK238; clear HB; clear HO_11; have HO_8 := n0_; have HO_41 := n1_; have BK224 := n2_; have BK238 := n3_; have HB := n4_; have HO245 := n5_; clear n0_ n1_ n2_ n3_ n4_ n5_; clear ho hb hg hat))
                 go_roundg k2
                 case measure => have := HK1.out; have := HK2.out; omega
                 case rel => exact ⟨(t239), (wrap64 (x10_1 - 1)), (y243), rfl, rfl, H', ⟨by have := HK1.out; have := HK2.out; omega⟩, HO_8, ⟨by (with_reducible repeat (first | apply rA | apply rN | apply rD)); exact Kd.R_mono HO245.out (fun _ hk => trivial)⟩, BK224, HB⟩
                ·rw [if_neg c40] at H
                 exact absurd H (by simp)
               ·rw [if_neg c39] at H
                have c39b0 : ((rd t226 t241) == (wrap64 (x10_1 - 1))) = false := beq_eq_false_iff_ne.mpr c39
                have c39b1 : ((rd t226 t241) != (wrap64 (x10_1 - 1))) = true := bne_iff_ne.mpr c39
                have H' := aM H
                clear H
                have p237 : 0 ≤ (x43_2 : Int) := oT (by assumption)
                have q237 : x43_2 < (t234.length : Int) := oT (by assumption)
                obtain ⟨ad237, e237, hx237_0, hx237_1⟩ := at_T62 (Kd.R_reads' HO_41.out).2.2 x43_2 p237 q237
                cases e237
                replace p237 := eq_true p237
                replace q237 := eq_true q237
                go_wp2_with (first | ((with_reducible refine gate_dst (N := 13) rfl ?_); refine box_event ?hg (N := 13) ?hd (cs := #[.int .i64 0, .int .i64 0]) (t := 62) ?hr ?_; (case hd => rfl); (case hg => rfl); (case hr => go_simp); intro gb238 hg w50 hbox hb; replace HO_8 := aM (Kd.R_below (by repeat first | exact HO_8.out | apply rA | apply rN | apply rD) hb); replace HO_11 := aM (Kd.R_below (Kd.R_elderB (by repeat first | exact HO_11.out | apply rA | apply rN | apply rD) gb238 (Nat.le_of_eq hg.symm)) hb); replace HO_41 := aM (Kd.R_below (Kd.R_elderB (by repeat first | exact HO_41.out | apply rA | apply rN | apply rD) gb238 (Nat.le_of_eq hg.symm)) hb); have BK238 := aM (hbox); have GW238 := aM ((by rw [hg]; exact (below_size (by repeat first | exact HB.out | apply bA | apply bN | apply bD | refine bS ?_ GE224.out)) : w.heap.size ≤ gb238)); replace HB := aM (below_step (by repeat first | exact HB.out | apply bA | apply bN | apply bD | refine bS ?_ GE224.out) hb); have NB224_238 := aM ((by rw [hg]; exact Nat.ne_of_lt (blk_lt (g := gb224) (o := .cells #[.slice A0_0 l0_0.length c0_0, .slice A0_1 l0_1.length c0_1] 31 (0, 0)) (by repeat first | exact BK224.out | refine kN ?_ _ | refine kD ?_ | refine kA ?_ _)) : gb224 ≠ gb238)); have NB238_224 := aM ((by rw [hg]; exact Nat.ne_of_gt (blk_lt (g := gb224) (o := .cells #[.slice A0_0 l0_0.length c0_0, .slice A0_1 l0_1.length c0_1] 31 (0, 0)) (by repeat first | exact BK224.out | refine kN ?_ _ | refine kD ?_ | refine kA ?_ _)) : gb238 ≠ gb224)); replace BK224 := aM (blk_below (g := gb224) (o := .cells #[.slice A0_0 l0_0.length c0_0, .slice A0_1 l0_1.length c0_1] 31 (0, 0)) (by repeat first | exact BK224.out | refine kN ?_ _ | refine kD ?_ | refine kA ?_ _) hb); have GE238 := GW238; clear hb hbox hg; have hnb51 := NB238_224.out; have hnc51 := NB224_238.out; have hcz52_0 : w50.cell? ⟨gb238, 0, none⟩ = some (.int .i64 0) := (blk_cell BK238.out 0).trans rfl; have hcz52_1 : w50.cell? ⟨gb238, 1, none⟩ = some (.int .i64 0) := (blk_cell BK238.out 1).trans rfl; have hfz52_0 := blk_frozen BK238.out 0; have hfz52_1 := blk_frozen BK238.out 1; have hcz53_0 : w50.cell? ⟨gb224, 0, none⟩ = some (.slice A0_0 l0_0.length c0_0) := (blk_cell BK224.out 0).trans rfl; have hcz53_1 : w50.cell? ⟨gb224, 1, none⟩ = some (.slice A0_1 l0_1.length c0_1) := (blk_cell BK224.out 1).trans rfl; have hfz53_0 := blk_frozen BK224.out 0; have hfz53_1 := blk_frozen BK224.out 1) | ((with_reducible refine gate_callee (f := 33) rfl ?_); refine goesL_ (some 51) rfl rfl Try.func33 (by kernel_rfl) rfl #[.agg #[.slice A0_0 l0_0.length c0_0, .slice A0_1 l0_1.length c0_1], .string x1_2, .agg #[.int .i64 ((rd_T62 t234 x43_2).f0), .int .i64 ((rd_T62 t234 x43_2).f1)]] rfl (by simp only [mA, mB, mC]; all_goals rfl) ?_; (with_reducible refine (spec_boPut.calls k2 _ _ l0_0 _ _ l0_1 x1_2 ((rd_T62 t234 x43_2).f0) ((rd_T62 t234 x43_2).f1) t239 t240 _ ?side1 ?side2 ?side3 ?side4 A35.out).mono ?_); (case side1 => exact Kd.C_below HR0_0.out (by repeat first | exact HB.out | apply bA | apply bN | apply bD | refine bS ?_ GE224.out | refine bS ?_ GE238.out)); (case side2 => exact HC0_0.out); (case side3 => exact Kd.C_below HR0_1.out (by repeat first | exact HB.out | apply bA | apply bN | apply bD | refine bS ?_ GE224.out | refine bS ?_ GE238.out)); (case side4 => exact HC0_1.out); rintro e w54 ⟨rfl, hb⟩; refine ⟨_, rfl, ?_⟩; replace HO_8 := aM (Kd.R_below (by (with_reducible repeat (first | apply rA | apply rN | apply rD)); exact (Kd.R_mono (Kd.R_far (p := ⟨gb238, 1, none⟩) (Kd.R_far (p := ⟨gb238, 0, none⟩) (Kd.R_types HO_8.out BK238.out (by decide)) (fun _ hk => hk.2) (.int .i64 ((rd_T62 t234 x43_2).f0))) (fun _ hk => hk.2) (.int .i64 ((rd_T62 t234 x43_2).f1))) (fun _ h_ => h_.1))) hb); replace HO_11 := aM (Kd.R_below (by (with_reducible repeat (first | apply rA | apply rN | apply rD)); exact (Kd.R_mono (Kd.R_far (p := ⟨gb238, 1, none⟩) (Kd.R_far (p := ⟨gb238, 0, none⟩) (Kd.R_mono HO_11.out (fun k_ hk => (⟨hk, hk.2⟩ : _ ∧ k_ ≠ gb238))) (fun _ hk => hk.2) (.int .i64 ((rd_T62 t234 x43_2).f0))) (fun _ hk => hk.2) (.int .i64 ((rd_T62 t234 x43_2).f1))) (fun _ h_ => h_.1))) hb); replace HO_41 := aM (Kd.R_below (by (with_reducible repeat (first | apply rA | apply rN | apply rD)); exact (Kd.R_mono (Kd.R_far (p := ⟨gb238, 1, none⟩) (Kd.R_far (p := ⟨gb238, 0, none⟩) (Kd.R_mono HO_41.out (fun k_ hk => (⟨hk, hk.2⟩ : _ ∧ k_ ≠ gb238))) (fun _ hk => hk.2) (.int .i64 ((rd_T62 t234 x43_2).f0))) (fun _ hk => hk.2) (.int .i64 ((rd_T62 t234 x43_2).f1))) (fun _ h_ => h_.1))) hb); replace BK224 := aM (blk_below (g := gb224) (o := .cells #[.slice A0_0 l0_0.length c0_0, .slice A0_1 l0_1.length c0_1] 31 (0, 0)) (by (with_reducible repeat (first | refine kN ?_ _ | refine kD ?_ | refine kA ?_ _)); refine blk_far ?_ NB224_238.out _; (with_reducible repeat (first | refine kN ?_ _ | refine kD ?_ | refine kA ?_ _)); refine blk_far ?_ NB224_238.out _; (with_reducible repeat (first | refine kN ?_ _ | refine kD ?_ | refine kA ?_ _)); exact BK224.out) hb); replace BK238 := aM (blk_below (g := gb238) (o := .cells #[.int .i64 ((rd_T62 t234 x43_2).f0), .int .i64 ((rd_T62 t234 x43_2).f1)] 62 (0, 0)) (by (with_reducible repeat (first | refine kN ?_ _ | refine kD ?_ | refine kA ?_ _)); refine blk_put (cs := #[.int .i64 ((rd_T62 t234 x43_2).f0), .int .i64 0]) ?_ 1 _ rfl; (with_reducible repeat (first | refine kN ?_ _ | refine kD ?_ | refine kA ?_ _)); refine blk_put (cs := #[.int .i64 0, .int .i64 0]) ?_ 0 _ rfl; (with_reducible repeat (first | refine kN ?_ _ | refine kD ?_ | refine kA ?_ _)); exact BK238.out) hb); replace HB := aM (below_step (by repeat first | exact HB.out | apply bA | apply bN | apply bD | refine bS ?_ GE224.out | refine bS ?_ GE238.out) hb); (try clear hb); have hcz55_0 : w54.cell? ⟨gb224, 0, none⟩ = some (.slice A0_0 l0_0.length c0_0) := (blk_cell BK224.out 0).trans rfl; have hcz55_1 : w54.cell? ⟨gb224, 1, none⟩ = some (.slice A0_1 l0_1.length c0_1) := (blk_cell BK224.out 1).trans rfl; have hfz55_0 := blk_frozen BK224.out 0; have hfz55_1 := blk_frozen BK224.out 1) | ((with_reducible refine gate_callee (f := 21) rfl ?_); refine goesL_ (some 57) rfl rfl Try.func21 (by kernel_rfl) rfl #[.agg #[.slice A0_0 l0_0.length c0_0, .slice A0_1 l0_1.length c0_1], .string t239] rfl (by simp only [mA, mB, mC]; all_goals rfl) ?_; (with_reducible refine (spec_boNumber.calls k2 _ _ l0_0 _ _ l0_1 t239 t241 _ ?side1 ?side2 ?side3 ?side4 A36.out).mono ?_); (case side1 => repeat first | exact Kd.C_below HR0_0.out HB.out | refine cA ?_ _ | refine cN ?_ _ | refine cD ?_); (case side2 => exact HC0_0.out); (case side3 => repeat first | exact Kd.C_below HR0_1.out HB.out | refine cA ?_ _ | refine cN ?_ _ | refine cD ?_); (case side4 => exact HC0_1.out); rintro e w56 ⟨rfl, hb⟩; refine ⟨_, rfl, ?_⟩; replace HO_8 := aM (Kd.R_below (by repeat first | exact HO_8.out | apply rA | apply rN | apply rD) hb); replace HO_11 := aM (Kd.R_below (by repeat first | exact HO_11.out | apply rA | apply rN | apply rD) hb); replace HO_41 := aM (Kd.R_below (by repeat first | exact HO_41.out | apply rA | apply rN | apply rD) hb); replace BK224 := aM (blk_below (g := gb224) (o := .cells #[.slice A0_0 l0_0.length c0_0, .slice A0_1 l0_1.length c0_1] 31 (0, 0)) (by repeat first | exact BK224.out | refine kN ?_ _ | refine kD ?_ | refine kA ?_ _) hb); replace BK238 := aM (blk_below (g := gb238) (o := .cells #[.int .i64 ((rd_T62 t234 x43_2).f0), .int .i64 ((rd_T62 t234 x43_2).f1)] 62 (0, 0)) (by repeat first | exact BK238.out | refine kN ?_ _ | refine kD ?_ | refine kA ?_ _) hb); replace HB := aM (below_step (by repeat first | exact HB.out | apply bA | apply bN | apply bD | refine bS ?_ GE224.out | refine bS ?_ GE238.out) hb); (try clear hb); have p242 : 0 ≤ (t241 : Int) := oT (by assumption); have q242 : t241 < (t226.length : Int) := oT (by assumption); obtain ⟨ad242, e242, hx242_0⟩ := Kd.at_int (Kd.R_reads' HO_8.out).2.2 t241 p242 q242; obtain rfl : ad233 = ad242 := (by injection e242); replace p242 := eq_true p242; replace q242 := eq_true q242))
                go_roundg k2
                case measure => have := HK1.out; have := HK2.out; omega
                case rel => exact ⟨(x1_2), (x11_2), (wrap64 (x43_2 + 1)), rfl, rfl, H', ⟨by have := HK1.out; have := HK2.out; omega⟩, HO_8, ⟨by (with_reducible repeat (first | apply rA | apply rN | apply rD)); exact Kd.R_mono HO_11.out (fun _ hk => hk.1)⟩, ⟨by (with_reducible repeat (first | apply rA | apply rN | apply rD)); exact Kd.R_mono HO_41.out (fun _ hk => hk.1)⟩, BK224, HB⟩
              ·rw [if_neg c38] at H
               exact absurd H (by simp)
             ·rw [if_neg c37] at H
              exact absurd H (by simp)
            ·rw [if_neg c34] at H
             exact absurd H (by simp)
           ·rw [if_neg c33] at H
            exact absurd H (by simp)
          ·rw [if_neg c32] at H
           have c32b0 : decide (x43_2 < (t234.length : Int)) = false := decide_eq_false c32
           clear c32
           have H' := aM H
           clear H
           go_wp2
           go_roundg k2
           case measure => have := HK1.out; have := HK2.out; omega
           case rel => exact ⟨(x1_2), (wrap64 (x10_1 - 1)), (x11_2), rfl, rfl, H', ⟨by have := HK1.out; have := HK2.out; omega⟩, HO_8, ⟨by (with_reducible repeat (first | apply rA | apply rN | apply rD)); exact Kd.R_mono HO_11.out (fun _ hk => trivial)⟩, BK224, HB⟩
       ·rw [if_neg c27] at H
        have c27b0 : decide (0 < x10_1) = false := decide_eq_false c27
        clear c27
        simp only [Option.some.injEq, Prod.mk.injEq] at H
        obtain ⟨rfl, rfl⟩ := H
        go_wp2
        go_ret2
        exact ⟨_, rfl, HO_11.out, HB.out⟩
   ·rw [if_neg c9] at H
    exact absurd H (by simp)
  ·rw [if_neg c8] at H
   exact absurd H (by simp)
 ·replace c5 := Bool.eq_false_iff.mpr c5
  subst c5
  have H1 : (some (([] : List (S62)), false)) = some (r1, r2) := by rw [if_neg (show ¬ (false = true) by decide)] at H; exact H
  clear H; have H := H1; clear H1
  simp only [Option.some.injEq, Prod.mk.injEq] at H
  obtain ⟨rfl, rfl⟩ := H
  go_enter Try.func10, Try.ntmps10
  go_wp2_with (first | ((with_reducible refine gate_dst (N := 3) rfl ?_); refine box_event ?hg (N := 3) ?hd (cs := #[.slice A0_0 l0_0.length c0_0, .slice A0_1 l0_1.length c0_1]) (t := 31) ?hr ?_; (case hd => rfl); (case hg => rfl); (case hr => go_simp); intro gb224 hg w57 hbox hb; have BK224 := aM (hbox); have GW224 := aM ((by rw [hg]; exact (below_size HB.out) : w.heap.size ≤ gb224)); replace HB := aM (below_step HB.out hb); have GE224 := GW224; clear hb hbox hg; have hcz58_0 : w57.cell? ⟨gb224, 0, none⟩ = some (.slice A0_0 l0_0.length c0_0) := (blk_cell BK224.out 0).trans rfl; have hcz58_1 : w57.cell? ⟨gb224, 1, none⟩ = some (.slice A0_1 l0_1.length c0_1) := (blk_cell BK224.out 1).trans rfl; have hfz58_0 := blk_frozen BK224.out 0; have hfz58_1 := blk_frozen BK224.out 1) | ((with_reducible refine gate_callee (f := 31) rfl ?_); refine goesL_ (some 19) rfl rfl Try.func31 (by kernel_rfl) rfl #[.agg #[.slice A0_0 l0_0.length c0_0, .slice A0_1 l0_1.length c0_1], .string a1, .string a2] rfl (by simp only [mA, mB, mC]; all_goals rfl) ?_; (with_reducible refine (spec_boTwo.calls k _ _ l0_0 _ _ l0_1 a1 a2 false _ ?side1 ?side2 ?side3 ?side4 A4.out).mono ?_); (case side1 => exact Kd.C_below HR0_0.out HB.out); (case side2 => exact HC0_0.out); (case side3 => exact Kd.C_below HR0_1.out HB.out); (case side4 => exact HC0_1.out); rintro e w59 ⟨rfl, hb⟩; refine ⟨_, rfl, ?_⟩; replace BK224 := aM (blk_below (g := gb224) (o := .cells #[.slice A0_0 l0_0.length c0_0, .slice A0_1 l0_1.length c0_1] 31 (0, 0)) BK224.out hb); replace HB := aM (below_step HB.out hb); (try clear hb)))
  go_ret2
  exact ⟨_, rfl, by first | exact Kd.R_nil _ _ _ _ _ | exact Kd.N_nil _ _ _ _ _ | exact Kd.V_nil _ _ _ _ _ | exact Kd.Q_nil _ _ _ _ _ | exact Kd.S_nil _ _ _ _ _, HB.out⟩

/-! ### impl_searched: function 56 (told by hand) -/
/-- What a search has found so far: the list, the map of the fewest moves, the map of the ways; all in blocks of the call's own. -/
structure impl_searched.St (w w' : World) (gb b1 b2 : Nat) (ok : Nat → Prop) (v : Value) (x : List ByteArray) (f g : ByteArray → Option Int) (c : Nat) : Prop where
 lst : Kd.R Kd.string 9 w' w.heap.size ok v x
 blk : w'.heap[gb]? = some (.cells #[v, .map (some b1), .map (some b2)] 69 (0, 0))
 far : MapS.M w' b1 c f
 way : MapS.M w' b2 c g
 ge : w.heap.size ≤ gb ∧ w.heap.size ≤ b1 ∧ w.heap.size ≤ b2 ∧ b1 ≠ b2
 bel : Below w.heap.size w w'
theorem impl_searched.St.below {w w' w2 : World} {gb b1 b2 : Nat} {ok : Nat → Prop} {v : Value} {x : List ByteArray} {f g : ByteArray → Option Int} {c : Nat} (h : impl_searched.St w w' gb b1 b2 ok v x f g c) (hb : Below w'.heap.size w' w2) : impl_searched.St w w2 gb b1 b2 ok v x f g c :=
 ⟨Kd.R_below h.lst hb, blk_below h.blk hb, MapS.M_below h.far hb, MapS.M_below h.way hb, h.ge, below_step h.bel hb⟩
theorem impl_searched.St.own {w w' : World} {gb b1 b2 : Nat} {ok : Nat → Prop} {v : Value} {x : List ByteArray} {f g : ByteArray → Option Int} {c n : Nat} {b : Nat} {q : ByteArray → Option Int} (h : impl_searched.St w w' gb b1 b2 ok v x f g c) (hM : MapS.M w' b n q) : some b ≠ v.ownBlock := fun e => by
 obtain ⟨cells, hc⟩ := Kd.R_typed h.lst b e.symm
 exact MapS.M_apart hM hc rfl
theorem impl_searched.St.more {w w' : World} {gb b1 b2 : Nat} {ok : Nat → Prop} {v : Value} {x : List ByteArray} {f g : ByteArray → Option Int} {c : Nat} (h : impl_searched.St w w' gb b1 b2 ok v x f g c) : impl_searched.St w w' gb b1 b2 ok v x f g (c + 1) :=
 ⟨h.lst, h.blk, MapS.M_mono h.far (Nat.le_succ _), MapS.M_mono h.way (Nat.le_succ _), h.ge, h.bel⟩
theorem impl_searched.St.put1 {w w' w2 : World} {gb b1 b2 : Nat} {ok : Nat → Prop} {v : Value} {x : List ByteArray} {f f2 g : ByteArray → Option Int} {c : Nat} (h : impl_searched.St w w' gb b1 b2 ok v x f g c) (hM : MapS.M w2 b1 (c + 1) f2) (hg : w'.grownBy w2 (some b1)) : impl_searched.St w w2 gb b1 b2 ok v x f2 g (c + 1) :=
 ⟨Kd.R_grown2 h.lst rfl hg (fun k hk => by cases hk; exact h.own h.far), blk_grown h.blk hg (fun e => MapS.M_apart h.far h.blk (Option.some.inj e)), hM, MapS.M_mono (MapS.M_grown h.way hg (fun e => h.ge.2.2.2 (Option.some.inj e).symm)) (Nat.le_succ _), h.ge, h.bel.grown hg h.bel.size (fun k hk => by cases hk; exact h.ge.2.1)⟩
theorem impl_searched.St.put2 {w w' w2 : World} {gb b1 b2 : Nat} {ok : Nat → Prop} {v : Value} {x : List ByteArray} {f g g2 : ByteArray → Option Int} {c : Nat} (h : impl_searched.St w w' gb b1 b2 ok v x f g c) (hM : MapS.M w2 b2 (c + 1) g2) (hg : w'.grownBy w2 (some b2)) : impl_searched.St w w2 gb b1 b2 ok v x f g2 (c + 1) :=
 ⟨Kd.R_grown2 h.lst rfl hg (fun k hk => by cases hk; exact h.own h.way), blk_grown h.blk hg (fun e => MapS.M_apart h.way h.blk (Option.some.inj e)), MapS.M_mono (MapS.M_grown h.far hg (fun e => h.ge.2.2.2 (Option.some.inj e))) (Nat.le_succ _), hM, h.ge, h.bel.grown hg h.bel.size (fun k hk => by cases hk; exact h.ge.2.2.1)⟩
theorem impl_searched.grown_set (W : World) (g i : Nat) (u : Value) : W.grownBy (W.setCell ⟨g, i, none⟩ u) (some g) :=
 ⟨rfl, rfl, rfl, by simp [World.setCell], fun k _ hk => Below.heap_setCell _ _ _ _ (fun e => hk (by rw [e]))⟩
/-- The list grown, its row put back into the struct. -/
theorem impl_searched.St.push {w w' w1 : World} {gb b1 b2 : Nat} {ok : Nat → Prop} {v v1 : Value} {x x1 : List ByteArray} {f g : ByteArray → Option Int} {c : Nat} (h : impl_searched.St w w' gb b1 b2 ok v x f g c) (ho : Kd.R Kd.string 9 w1 w.heap.size ok v1 x1) (hb : Below w.heap.size w w1) (hg : w'.grownBy w1 v.ownBlock) :
  impl_searched.St w (w1.setCell ⟨gb, 0, none⟩ v1) gb b1 b2 ok v1 x1 f g c := by
 have hk : w1.heap[gb]? = some (.cells #[v, .map (some b1), .map (some b2)] 69 (0, 0)) := blk_grown h.blk hg (Kd.R_ne h.lst h.blk (by decide))
 have h1 := MapS.M_grown h.far hg (h.own h.far)
 have h2 := MapS.M_grown h.way hg (h.own h.way)
 exact ⟨Kd.R_grown2 ho rfl (impl_searched.grown_set w1 gb 0 v1) (fun k hk2 => by cases hk2; exact Kd.R_ne ho hk (by decide)), blk_put hk 0 v1 rfl, MapS.M_set h1 _ _ (fun e => MapS.M_apart h1 hk e.symm), MapS.M_set h2 _ _ (fun e => MapS.M_apart h2 hk e.symm), h.ge, below_set hb h.ge.1⟩
/-- At most so many ways are held. -/
def impl_searched.cap (a : Int) : Int := if 1000000000000001 < a then 1000000000000001 else a
theorem impl_searched.cap_wf {a : Int} (h : (Lit.int .i64 a).wf = true) : (Lit.int .i64 (impl_searched.cap a)).wf = true := by
 unfold impl_searched.cap
 split
 ·decide
 ·exact h
mutual
def impl_searched.l0 (moves : Nat → ByteArray → Option (List ByteArray)) : Nat → List ByteArray → (ByteArray → Option Int) → (ByteArray → Option Int) → Nat → Int → Option (List ByteArray × (ByteArray → Option Int) × (ByteArray → Option Int))
 | 0, _, _, _, _, _ => none
 | k + 1, x, f, g, c, i => if i < (x.length : Int) then (if 0 ≤ i then ((moves k (rdOf ByteArray.empty x i)).bind fun ts => impl_searched.l1 moves k (rdOf ByteArray.empty x i) ts x f g c i 0) else none) else some (x, f, g)
def impl_searched.l1 (moves : Nat → ByteArray → Option (List ByteArray)) : Nat → ByteArray → List ByteArray → List ByteArray → (ByteArray → Option Int) → (ByteArray → Option Int) → Nat → Int → Int → Option (List ByteArray × (ByteArray → Option Int) × (ByteArray → Option Int))
 | 0, _, _, _, _, _, _, _, _ => none
 | k + 1, s, ts, x, f, g, c, i, j => if j < (ts.length : Int) then (if 0 ≤ j then (if s.size ≤ maxLen ∧ (rdOf ByteArray.empty ts j).size ≤ maxLen ∧ c < 4398046511104 ∧ x.length < 4398046511104 then
   (if (f (rdOf ByteArray.empty ts j)).isSome = true then
    (if (f (rdOf ByteArray.empty ts j)).getD 0 = wrap64 ((f s).getD 0 + 1)
     then impl_searched.l1 moves k s ts x f (MapS.upd g (rdOf ByteArray.empty ts j) (impl_searched.cap (wrap64 ((g (rdOf ByteArray.empty ts j)).getD 0 + (g s).getD 0)))) (c + 1) i (wrap64 (j + 1))
     else impl_searched.l1 moves k s ts x f g (c + 1) i (wrap64 (j + 1)))
   else
    (if wrap64 ((f s).getD 0 + 1) = wrap64 ((MapS.upd f (rdOf ByteArray.empty ts j) (wrap64 ((f s).getD 0 + 1)) s).getD 0 + 1)
     then impl_searched.l1 moves k s ts (x ++ [rdOf ByteArray.empty ts j]) (MapS.upd f (rdOf ByteArray.empty ts j) (wrap64 ((f s).getD 0 + 1))) (MapS.upd g (rdOf ByteArray.empty ts j) (impl_searched.cap (wrap64 ((g (rdOf ByteArray.empty ts j)).getD 0 + (g s).getD 0)))) (c + 1 + 1) i (wrap64 (j + 1))
     else impl_searched.l1 moves k s ts (x ++ [rdOf ByteArray.empty ts j]) (MapS.upd f (rdOf ByteArray.empty ts j) (wrap64 ((f s).getD 0 + 1))) g (c + 1 + 1) i (wrap64 (j + 1)))) else none) else none) else impl_searched.l0 moves k x f g c (wrap64 (i + 1))
end
def impl_searched.f (moves : Nat → ByteArray → Option (List ByteArray)) (k : Nat) (a0 : ByteArray) : Option (List ByteArray × (ByteArray → Option Int) × (ByteArray → Option Int)) := impl_searched.l0 moves k [a0] (MapS.upd (fun _ => none) a0 0) (MapS.upd (fun _ => none) a0 1) 1 0
theorem impl_searched.mono_l {moves : Nat → ByteArray → Option (List ByteArray)} (hr : ∀ x0 n, LeO (moves n x0) (moves (n + 1) x0)) : ∀ k, (∀ y0 y1 y2 y3 y4, LeO (impl_searched.l0 moves k y0 y1 y2 y3 y4) (impl_searched.l0 moves (k + 1) y0 y1 y2 y3 y4)) ∧ (∀ y0 y1 y2 y3 y4 y5 y6 y7, LeO (impl_searched.l1 moves k y0 y1 y2 y3 y4 y5 y6 y7) (impl_searched.l1 moves (k + 1) y0 y1 y2 y3 y4 y5 y6 y7))
 | 0 => ⟨fun _ _ _ _ _ r h => by simp [impl_searched.l0] at h, fun _ _ _ _ _ _ _ _ r h => by simp [impl_searched.l1] at h⟩
 | k + 1 => by
  obtain ⟨ih0, ih1⟩ := impl_searched.mono_l hr k
  refine ⟨?_, ?_⟩
  ·intro y0 y1 y2 y3 y4
   unfold impl_searched.l0
   repeat' first
   | (with_reducible exact ih1 _ _ _ _ _ _ _ _)
   | (with_reducible exact hr _ _)
   | (with_reducible exact LeO.refl _)
   | (with_reducible exact LeO.none _)
   | (with_reducible refine LeO.ite ?_ ?_)
   | (with_reducible refine LeO.bind ?_ (fun _ => ?_))
   | exact ih1 _ _ _ _ _ _ _ _
   | exact hr _ _
   | exact LeO.none _
   | refine LeO.ite ?_ ?_
   | refine LeO.bind ?_ (fun _ => ?_)
  ·intro y0 y1 y2 y3 y4 y5 y6 y7
   unfold impl_searched.l1
   repeat' first
   | (with_reducible exact ih1 _ _ _ _ _ _ _ _)
   | (with_reducible exact ih0 _ _ _ _ _)
   | (with_reducible exact LeO.refl _)
   | (with_reducible exact LeO.none _)
   | (with_reducible refine LeO.ite ?_ ?_)
   | exact ih1 _ _ _ _ _ _ _ _
   | exact ih0 _ _ _ _ _
   | exact LeO.none _
   | refine LeO.ite ?_ ?_
theorem impl_searched.mono {moves : Nat → ByteArray → Option (List ByteArray)} (hr : ∀ x0 n, LeO (moves n x0) (moves (n + 1) x0)) : ∀ a0 k, LeO (impl_searched.f moves k a0) (impl_searched.f moves (k + 1) a0) := fun _ k => (impl_searched.mono_l hr k).1 _ _ _ _ _
theorem impl_searched.goesV_ {ops : Array Oper} {rest : List Oper} {oi : Oper} {a : Act} {w : World} {Q : Exit → Act → World → Prop} {f : FuncId} {lb : Array Value} {as_ : Array Operand} {ts : Array TypeId} {v : Operand} (N : Option Tmp) (hd : oi.dst = N) (hg : oi.guard = none) (args : Array Value)
  (hop : oi.op = .call { callee := .value v, args := as_, argTypes := ts }) (hv : a.eval v = .func (.func f) #[] lb) (hargs : as_.map a.eval = args) (eg : Go.Proofs.Enters Try.prog f)
  (h : Calls Try.prog f (args ++ lb) w fun e w' => ∃ v, e = .returned v ∧ wpList Try.prog ops Q rest (a.put N v) w') : wpList Try.prog ops Q (oi :: rest) a w := by
 refine wpList_plain hg fun K hK => ?_
 have he := eg (args ++ lb) w
 have hrun : (execOp a.eval oi).run Try.prog w = .ok (.enter f (args ++ lb)) w := by
  unfold execOp
  simp [hop, resolve, Deferred.ofValue, invoke, hv, hargs, he]
 unfold Oper.wp
 rw [hrun, Oper.upon_enter]
 refine h.mono fun e w'' hh => ?_
 obtain ⟨v, rfl, hk⟩ := hh
 subst hd
 exact hK _ _ hk
set_option maxHeartbeats 8000000 in
set_option maxRecDepth 100000 in
theorem impl_searched.calls (gf : Nat) (lb : Array Value) (eg : Go.Proofs.Enters Try.prog gf) (moves : Nat → ByteArray → Option (List ByteArray)) (k : Nat) (a0 : ByteArray) (r : List ByteArray × (ByteArray → Option Int) × (ByteArray → Option Int)) (w : World) (hs : a0.size ≤ maxLen)
  (hp : ∀ (j : Nat) (x : ByteArray) (ts : List ByteArray) (W : World), Below w.heap.size w W → moves j x = some ts → Calls Try.prog gf (#[.string x] ++ lb) W fun e w' => ∃ v, e = .returned v ∧ Kd.R Kd.string 9 w' W.heap.size (fun _ => True) v ts ∧ Below W.heap.size W w')
  (h : impl_searched.f moves k a0 = some r) :
  Calls Try.prog 56 #[.string a0, .func (.func gf) #[] lb] w fun e w' => ∃ gb, e = .returned (.pointer (some ⟨gb, 0, none⟩)) ∧ ∃ b1 b2 v c, impl_searched.St w w' gb b1 b2 (fun _ => True) v r.1 r.2.1 r.2.2 c := by
 have hmm := @run_makeMap Try.prog
 have HP_ := aM hp
 clear hp
 have EG_ := aM eg
 clear eg
 have HS := aM hs
 clear hs
 have H' := aM (show impl_searched.l0 moves k [a0] (MapS.upd (fun _ => none) a0 0) (MapS.upd (fun _ => none) a0 1) 1 0 = some r from h)
 clear h
 go_enter Try.func56, Try.ntmps56
 go_wp2_with (first | ((with_reducible refine gate_dst (N := 13) rfl ?_); refine Kd.R_lit Kd.string _ 9 ?hg (N := 13) ?hd (xs := ([a0] : List ByteArray)) (inner := [.string a0]) (ok := fun _ => True) (okp := fun _ => True) ?hr ?hp (fun _ hk => hk) trivial (Below.refl _ _) (Nat.le_refl _) (by simp) ?_; (case hd => rfl); (case hg => rfl); (case hr => go_simp); (case hp => exact (Reps.one (show Kd.M Kd.string _ _ _ a0 [.string a0] from rfl) (Reps.none _ _))); intro v1 w1 ho hb hg_ hnew_; clear hg_ hnew_; obtain ⟨A1, c1, eo⟩ := Kd.R_slice ho; subst eo; have HL := aM ho; have HB := aM hb; clear ho hb) | (refine MapS.upd_ (MapS.M_made _) (by decide) HS.out (c := 0) (by decide) rfl (.tmp 14) _ _ (Or.inr rfl) rfl rfl rfl ?_; intro w2 hM hg2; have HM1 := aM hM; have HG2 := aM hg2; clear hM hg2) | (refine MapS.upd_ (MapS.M_made _) (by decide) HS.out (c := 1) (by decide) rfl (.tmp 17) _ _ (Or.inr rfl) rfl rfl rfl ?_; intro w3 hM hg3; have HM2 := aM hM; have HG3 := aM hg3; clear hM hg3) | ((with_reducible refine gate_dst (N := 21) rfl ?_); refine box_event ?hg (N := 21) ?hd (cs := #[.slice A1 [a0].length c1, .map (some w1.heap.size), .map (some w2.heap.size)]) (t := 69) ?hr ?_; (case hd => rfl); (case hg => rfl); (case hr => go_simp); intro gb hg4 w4 hbox hb4; have BK := aM hbox; have HB4 := aM hb4; have HG4 := aM hg4; clear hbox hb4 hg4))
 have S0 : impl_searched.St w w4 gb w1.heap.size w2.heap.size (fun _ => True) (.slice A1 [a0].length c1) [a0] (MapS.upd (fun _ => none) a0 0) (MapS.upd (fun _ => none) a0 1) 1 := by
  have hle : w.heap.size ≤ w1.heap.size := HB.out.size
  have hl1 : w1.heap.size < w2.heap.size := by have := HG2.out.size; simp at this; omega
  have hl2 : w2.heap.size ≤ w3.heap.size := by have := HG3.out.size; simp at this; omega
  have ha := Kd.R_grown2 (Kd.R_alloc HL.out (.map #[] 0)) rfl HG2.out (fun k hk => by cases hk; intro e; exact absurd (Kd.R_lt HL.out _ e.symm) (Nat.lt_irrefl _))
  have hb := Kd.R_grown2 (Kd.R_alloc ha (.map #[] 0)) rfl HG3.out (fun k hk => by cases hk; intro e; exact absurd (Kd.R_lt ha _ e.symm) (Nat.lt_irrefl _))
  have hm := MapS.M_grown (MapS.M_alloc HM1.out (.map #[] 0)) HG3.out (fun e => by have := Option.some.inj e; omega)
  have hB2 : Below w.heap.size w w2 := (below_alloc HB.out (.map #[] 0)).grown HG2.out (by simp; omega) (fun k hk => by cases hk; exact hle)
  have hB3 : Below w.heap.size w w3 := (below_alloc hB2 (.map #[] 0)).grown HG3.out (by simp; omega) (fun k hk => by cases hk; omega)
  exact ⟨Kd.R_below hb HB4.out, BK.out, MapS.M_below hm HB4.out, MapS.M_below HM2.out HB4.out, ⟨by rw [HG4.out]; omega, hle, by omega, by omega⟩, below_step hB3 HB4.out⟩
 have SS := aM S0
 clear S0 HL HB HM1 HM2 HG2 HG3 BK HB4 HG4
 generalize hn1 : w1.heap.size = b1 at SS ⊢
 generalize hn2 : w2.heap.size = b2 at SS ⊢
 clear hn1 hn2
 go_loopg [6] k (fun kq v6 w' => ∃ (v : Value) (x : List ByteArray) (f g : ByteArray → Option Int) (c : Nat) (i : Int), v6 = .int .i64 i ∧ Aside0 (impl_searched.l0 moves kq x f g c i = some r) ∧ Aside0 (kq ≤ k) ∧ Aside0 (impl_searched.St w w' gb b1 b2 (fun _ => True) v x f g c))
 case atStart => exact ⟨_, [a0], _, _, 1, 0, rfl, H', ⟨Nat.le_refl _⟩, SS⟩
 case round =>
  clear H' SS
  obtain ⟨v, x, f, g, c, i, rfl, HA, HK1, SS⟩ := hrel
  cases gk with
  | zero => exact absurd HA.out (by simp [impl_searched.l0])
  | succ k1 =>
   have H := HA.out
   clear HA
   simp only [impl_searched.l0] at H
   obtain ⟨A2, c2, eo⟩ := Kd.R_slice SS.out.lst
   subst eo
   have hz0 : wr.cell? ⟨gb, 0, none⟩ = some (.slice A2 x.length c2) := (blk_cell SS.out.blk 0).trans rfl
   by_cases c5 : i < (x.length : Int)
   ·rw [if_pos c5] at H
    have c5b0 : decide (i < (x.length : Int)) = true := decide_eq_true c5
    clear c5
    by_cases c6 : 0 ≤ i
    ·rw [if_pos c6] at H
     have c6b0 : decide (0 ≤ i) = true := decide_eq_true c6
     clear c6
     obtain ⟨ts, A70, H⟩ := Option.bind_eq_some_iff.mp H
     have A7 := aM A70
     have H' := aM H
     clear A70 H
     have p1 : 0 ≤ (i : Int) := oT (by assumption)
     have q1 : i < (x.length : Int) := oT (by assumption)
     obtain ⟨ad1, e1, hx1⟩ := Kd.at_string (Kd.R_reads' SS.out.lst).2.2 i p1 q1
     cases e1
     replace p1 := eq_true p1
     replace q1 := eq_true q1
     generalize hs1 : rdOf ByteArray.empty x i = s1 at hx1 A7 H'
     clear hs1
     go_wp2_with (first | ((with_reducible refine gate_dst (N := 40) rfl ?_); refine impl_searched.goesV_ (f := gf) (lb := lb) (some 40) rfl rfl #[.string s1] rfl rfl (by simp only [mA, mB, mC]; all_goals rfl) EG_.out ?_; (with_reducible refine (HP_.out k1 s1 ts _ SS.out.bel A7.out).mono ?_); rintro e w8 ⟨vt, rfl, ho, hb⟩; refine ⟨_, rfl, ?_⟩; obtain ⟨A3, c3, eo⟩ := Kd.R_slice ho; subst eo; have ST := aM (Kd.R_lower (Kd.R_new' ho (Kd.R_lt SS.out.lst)) SS.out.bel.size); have n0 := aM (show impl_searched.St w w8 gb b1 b2 (fun k => True ∧ some k ≠ (.slice A3 ts.length c3 : Value).ownBlock) (.slice (some ad1) x.length c2) x f g c from ⟨Kd.R_elder' SS.out.lst (Kd.R_base ho) hb, (SS.out.below hb).blk, (SS.out.below hb).far, (SS.out.below hb).way, SS.out.ge, (SS.out.below hb).bel⟩); clear SS; have SS := n0; clear n0 ho hb))
     clear hx1 hz0 p1 q1
     go_loopg [42] k1 (fun kq v42 w' => ∃ (v : Value) (x : List ByteArray) (f g : ByteArray → Option Int) (c : Nat) (j : Int), v42 = .int .i64 j ∧ Aside0 (impl_searched.l1 moves kq s1 ts x f g c i j = some r) ∧ Aside0 (kq ≤ k1) ∧ Aside0 (Kd.R Kd.string 9 w' w.heap.size (fun k => True ∧ some k ≠ v.ownBlock) (.slice A3 ts.length c3) ts) ∧ Aside0 (impl_searched.St w w' gb b1 b2 (fun k => True ∧ some k ≠ (.slice A3 ts.length c3 : Value).ownBlock) v x f g c))
     case atStart => exact ⟨_, x, f, g, c, 0, rfl, H', ⟨Nat.le_refl _⟩, ST, SS⟩
     case round =>
      clear H' ST SS c5b0 c6b0 A7
      obtain ⟨v, x, f, g, c, j, rfl, HA, HK2, ST, SS⟩ := hrel
      cases gk with
      | zero => exact absurd HA.out (by simp [impl_searched.l1])
      | succ k2 =>
       have H := HA.out
       clear HA
       simp only [impl_searched.l1] at H
       by_cases c7 : j < (ts.length : Int)
       ·rw [if_pos c7] at H
        have c7b0 : decide (j < (ts.length : Int)) = true := decide_eq_true c7
        clear c7
        by_cases c8 : 0 ≤ j
        ·rw [if_pos c8] at H
         have c8b0 : decide (0 ≤ j) = true := decide_eq_true c8
         clear c8
         obtain ⟨A4, c4, eo⟩ := Kd.R_slice SS.out.lst
         subst eo
         have p2 : 0 ≤ (j : Int) := oT (by assumption)
         have q2 : j < (ts.length : Int) := oT (by assumption)
         obtain ⟨ad2, e2, hx2⟩ := Kd.at_string (Kd.R_reads' ST.out).2.2 j p2 q2
         cases e2
         replace p2 := eq_true p2
         replace q2 := eq_true q2
         generalize hs2 : rdOf ByteArray.empty ts j = t at hx2 H
         clear hs2
         by_cases c9 : s1.size ≤ maxLen ∧ t.size ≤ maxLen ∧ c < 4398046511104 ∧ x.length < 4398046511104
         ·rw [if_pos c9] at H
          have G9 := aM c9
          clear c9
          have hz0 : wr.cell? ⟨gb, 0, none⟩ = some (.slice A4 x.length c4) := (blk_cell SS.out.blk 0).trans rfl
          have hz1 : wr.cell? ⟨gb, 1, none⟩ = some (.map (some b1)) := (blk_cell SS.out.blk 1).trans rfl
          have hz2 : wr.cell? ⟨gb, 2, none⟩ = some (.map (some b2)) := (blk_cell SS.out.blk 2).trans rfl
          have hzf := blk_frozen SS.out.blk 0
          obtain ⟨n1, hn1⟩ : ∃ n, (f s1).getD 0 = n := ⟨_, rfl⟩
          obtain ⟨n2, hn2⟩ : ∃ n, (f t).getD 0 = n := ⟨_, rfl⟩
          have N1 := aM hn1
          have N2 := aM hn2
          by_cases c10 : (f t).isSome = true
          ·rw [if_pos c10, hn1, hn2] at H
           have F10 := aM c10
           clear c10 hn1 hn2
           by_cases c11 : n2 = wrap64 (n1 + 1)
           ·rw [if_pos c11] at H
            have c11b0 : (n2 == wrap64 (n1 + 1)) = true := beq_iff_eq.mpr c11
            clear c11
            obtain ⟨n3, hn3⟩ : ∃ n, (g t).getD 0 = n := ⟨_, rfl⟩
            obtain ⟨n4, hn4⟩ : ∃ n, (g s1).getD 0 = n := ⟨_, rfl⟩
            rw [hn3, hn4] at H
            have H' := aM H
            clear H
            go_wp2_with (first | (at_lookup; refine MapS.look2_v SS.out.far N2.out F10.out G9.out.2.1 rfl _ _ rfl rfl rfl ?_) | (at_lookup; refine MapS.look_v SS.out.far N1.out G9.out.1 rfl _ _ rfl rfl rfl ?_))
            have hl3 := MapS.M_look (MapS.M_drew SS.out.way) t G9.out.2.1
            have hl4 := MapS.M_look (MapS.M_drew SS.out.way) s1 G9.out.1
            rw [hn3] at hl3
            rw [hn4] at hl4
            clear hn3 hn4
            obtain ⟨w9, hput, hM, hg9⟩ := MapS.M_put (MapS.M_drew SS.out.way) (Nat.lt_of_lt_of_le G9.out.2.2.1 (by decide)) t G9.out.2.1 (impl_searched.cap (wrap64 (n3 + n4))) (impl_searched.cap_wf (wrap64_wf _))
            simp only [impl_searched.cap] at hput
            have SD := SS.out.below (Below.refl _ _).drew
            have n0 := aM (SD.put2 hM hg9)
            have n9 := aM (Kd.R_grown2 (Kd.R_drew ST.out) rfl hg9 (fun k hk => by cases hk; intro e; obtain ⟨cells, hc⟩ := Kd.R_typed ST.out _ e.symm; exact MapS.M_apart SS.out.way hc rfl))
            clear hM hg9 SD
            go_region
            all_goals go_wp2
            all_goals (go_roundg k2; (case measure => have := HK1.out; have := HK2.out; omega); (case rel => exact ⟨_, _, _, _, _, (wrap64 (j + 1)), rfl, H', ⟨by have := HK1.out; have := HK2.out; omega⟩, n9, n0⟩))
           ·rw [if_neg c11] at H
            have c11b0 : (n2 == wrap64 (n1 + 1)) = false := beq_eq_false_iff_ne.mpr c11
            clear c11
            have H' := aM H
            clear H
            go_wp2_with (first | (at_lookup; refine MapS.look2_v SS.out.far N2.out F10.out G9.out.2.1 rfl _ _ rfl rfl rfl ?_) | (at_lookup; refine MapS.look_v SS.out.far N1.out G9.out.1 rfl _ _ rfl rfl rfl ?_))
            go_roundg k2
            case measure => have := HK1.out; have := HK2.out; omega
            case rel => exact ⟨_, x, f, g, c + 1, (wrap64 (j + 1)), rfl, H', ⟨by have := HK1.out; have := HK2.out; omega⟩, ST, ⟨SS.out.more⟩⟩
          ·rw [if_neg c10, hn1] at H
           have F10 := aM (Bool.eq_false_iff.mpr c10)
           clear c10 hn1 hn2
           obtain ⟨n5, hn5⟩ : ∃ n, (MapS.upd f t (wrap64 (n1 + 1)) s1).getD 0 = n := ⟨_, rfl⟩
           rw [hn5] at H
           have N5 := aM hn5
           clear hn5
           obtain ⟨y, hy⟩ : ∃ y : List ByteArray, y = x ++ [t] := ⟨_, rfl⟩
           rw [← hy] at H
           have NY := aM hy
           clear hy
           by_cases c11 : wrap64 (n1 + 1) = wrap64 (n5 + 1)
           ·rw [if_pos c11] at H
            have c11b0 : (wrap64 (n1 + 1) == wrap64 (n5 + 1)) = true := beq_iff_eq.mpr c11
            clear c11
            obtain ⟨n3, hn3⟩ : ∃ n, (g t).getD 0 = n := ⟨_, rfl⟩
            obtain ⟨n4, hn4⟩ : ∃ n, (g s1).getD 0 = n := ⟨_, rfl⟩
            rw [hn3, hn4] at H
            have H' := aM H
            clear H
            go_wp2_with (first | (at_lookup; refine MapS.look2_v SS.out.far N2.out F10.out G9.out.2.1 rfl _ _ rfl rfl rfl ?_) | (at_lookup; refine MapS.look_v SS.out.far N1.out G9.out.1 rfl _ _ rfl rfl rfl ?_) | (at_lookup; refine MapS.look_v SS.out.far N5.out G9.out.1 rfl _ _ rfl rfl rfl ?_) | (at_mapUpdate; refine MapS.upd_ SS.out.far (Nat.lt_of_lt_of_le G9.out.2.2.1 (by decide)) G9.out.2.1 (c := wrap64 (n1 + 1)) (wrap64_wf _) rfl (.tmp 67) _ _ (Or.inl rfl) rfl rfl rfl ?_; intro w5 hM hg5; have m0 := aM (SS.out.put1 hM hg5); have m1 := aM (Kd.R_grown2 ST.out rfl hg5 (fun k hk => by cases hk; intro e; obtain ⟨cells, hc⟩ := Kd.R_typed ST.out _ e.symm; exact MapS.M_apart SS.out.far hc rfl)); clear SS ST hz0 hz1 hz2 hzf hM hg5; have SS := m0; have ST := m1; clear m0 m1; have hz0 : w5.cell? ⟨gb, 0, none⟩ = some (.slice A4 x.length c4) := (blk_cell SS.out.blk 0).trans rfl) | ((with_reducible refine gate_builtin (b := .append) (xs := #[.tmp 74, .tmp 76]) rfl ?_); at_builtin; refine Kd.R_append Kd.string (w0 := w) w.heap.size rfl (.tmp 74) (.tmp 76) 47 9 (.string ⟨#[]⟩) 16 rfl Try.underlying47 info9 rfl (by decide) (by omega) (.slice A4 x.length c4) x t [.string t] (fun k => True ∧ some k ≠ (.slice (some ad2) ts.length c3 : Value).ownBlock) (fun _ => False) rfl rfl ?aP (fun _ hk => hk.elim) ?aF ?aO ?aB ?aS ?aL ?_; (case aP => exact rfl); (case aB => exact SS.out.bel); (case aF => exact fun k hk => ⟨trivial, fun e => absurd (Kd.R_lt ST.out k e.symm) (Nat.not_lt.2 hk)⟩); (case aO => exact SS.out.lst); (case aS => exact SS.out.bel.size); (case aL => have := G9.out.2.2.2; omega); intro v6 w6 ho hb hg hat; rw [← NY.out] at ho; obtain ⟨A6, c6, eo⟩ := Kd.R_slice ho; subst eo; have HO6 := aM ho; have HB6 := aM hb; have HG6 := aM hg; have ST6 := aM (Kd.R_after ST.out hg hat); have BK6 := aM (blk_grown SS.out.blk hg (Kd.R_ne SS.out.lst SS.out.blk (by decide))); clear ho hb hg hat ST hz0; have hz0 : w6.cell? ⟨gb, 0, none⟩ = some (.slice A4 x.length c4) := (blk_cell BK6.out 0).trans rfl; have hzf := blk_frozen BK6.out 0) | ((with_reducible refine gate_store (t := 47) (p := 79) rfl ?_); refine store_event (t := 47) (p := 79) (v := ?vo) (w1 := (w6.setCell ⟨gb, 0, none⟩ (.slice A6 y.length c6))) ?hg ?ho ?hn ?hr ?_; (case ho => rfl); (case hg => rfl); (case hn => rfl); (case hr => go_simp); intro w7 hw; have m0 := SS.out.push HO6.out HB6.out HG6.out; rw [← hw] at m0; have m0 := aM m0; have m1 := Kd.R_grown2 ST6.out rfl (impl_searched.grown_set w6 gb 0 (.slice A6 y.length c6)) (fun k hk => by cases hk; exact Kd.R_ne ST6.out BK6.out (by decide)); rw [← hw] at m1; have m1 := aM m1; clear SS ST6 HO6 HB6 HG6 BK6 hz0 hzf hw; have SS := m0; have ST := m1; clear m0 m1; have hz1 : w7.cell? ⟨gb, 1, none⟩ = some (.map (some b1)) := (blk_cell SS.out.blk 1).trans rfl; have hz2 : w7.cell? ⟨gb, 2, none⟩ = some (.map (some b2)) := (blk_cell SS.out.blk 2).trans rfl))
            have hl3 := MapS.M_look (MapS.M_drew SS.out.way) t G9.out.2.1
            have hl4 := MapS.M_look (MapS.M_drew SS.out.way) s1 G9.out.1
            rw [hn3] at hl3
            rw [hn4] at hl4
            clear hn3 hn4
            obtain ⟨w9, hput, hM, hg9⟩ := MapS.M_put (MapS.M_drew SS.out.way) (Nat.lt_of_lt_of_le (Nat.succ_lt_succ G9.out.2.2.1) (by decide)) t G9.out.2.1 (impl_searched.cap (wrap64 (n3 + n4))) (impl_searched.cap_wf (wrap64_wf _))
            simp only [impl_searched.cap] at hput
            have SD := SS.out.below (Below.refl _ _).drew
            have n0 := aM (SD.put2 hM hg9)
            have n9 := aM (Kd.R_grown2 (Kd.R_drew ST.out) rfl hg9 (fun k hk => by cases hk; intro e; obtain ⟨cells, hc⟩ := Kd.R_typed ST.out _ e.symm; exact MapS.M_apart SS.out.way hc rfl))
            clear hM hg9 SD
            go_region
            all_goals go_wp2
            all_goals (go_roundg k2; (case measure => have := HK1.out; have := HK2.out; omega); (case rel => exact ⟨_, _, _, _, _, (wrap64 (j + 1)), rfl, H', ⟨by have := HK1.out; have := HK2.out; omega⟩, n9, n0⟩))
           ·rw [if_neg c11] at H
            have c11b0 : (wrap64 (n1 + 1) == wrap64 (n5 + 1)) = false := beq_eq_false_iff_ne.mpr c11
            clear c11
            have H' := aM H
            clear H
            go_wp2_with (first | (at_lookup; refine MapS.look2_v SS.out.far N2.out F10.out G9.out.2.1 rfl _ _ rfl rfl rfl ?_) | (at_lookup; refine MapS.look_v SS.out.far N1.out G9.out.1 rfl _ _ rfl rfl rfl ?_) | (at_lookup; refine MapS.look_v SS.out.far N5.out G9.out.1 rfl _ _ rfl rfl rfl ?_) | (at_mapUpdate; refine MapS.upd_ SS.out.far (Nat.lt_of_lt_of_le G9.out.2.2.1 (by decide)) G9.out.2.1 (c := wrap64 (n1 + 1)) (wrap64_wf _) rfl (.tmp 67) _ _ (Or.inl rfl) rfl rfl rfl ?_; intro w5 hM hg5; have m0 := aM (SS.out.put1 hM hg5); have m1 := aM (Kd.R_grown2 ST.out rfl hg5 (fun k hk => by cases hk; intro e; obtain ⟨cells, hc⟩ := Kd.R_typed ST.out _ e.symm; exact MapS.M_apart SS.out.far hc rfl)); clear SS ST hz0 hz1 hz2 hzf hM hg5; have SS := m0; have ST := m1; clear m0 m1; have hz0 : w5.cell? ⟨gb, 0, none⟩ = some (.slice A4 x.length c4) := (blk_cell SS.out.blk 0).trans rfl) | ((with_reducible refine gate_builtin (b := .append) (xs := #[.tmp 74, .tmp 76]) rfl ?_); at_builtin; refine Kd.R_append Kd.string (w0 := w) w.heap.size rfl (.tmp 74) (.tmp 76) 47 9 (.string ⟨#[]⟩) 16 rfl Try.underlying47 info9 rfl (by decide) (by omega) (.slice A4 x.length c4) x t [.string t] (fun k => True ∧ some k ≠ (.slice (some ad2) ts.length c3 : Value).ownBlock) (fun _ => False) rfl rfl ?aP (fun _ hk => hk.elim) ?aF ?aO ?aB ?aS ?aL ?_; (case aP => exact rfl); (case aB => exact SS.out.bel); (case aF => exact fun k hk => ⟨trivial, fun e => absurd (Kd.R_lt ST.out k e.symm) (Nat.not_lt.2 hk)⟩); (case aO => exact SS.out.lst); (case aS => exact SS.out.bel.size); (case aL => have := G9.out.2.2.2; omega); intro v6 w6 ho hb hg hat; rw [← NY.out] at ho; obtain ⟨A6, c6, eo⟩ := Kd.R_slice ho; subst eo; have HO6 := aM ho; have HB6 := aM hb; have HG6 := aM hg; have ST6 := aM (Kd.R_after ST.out hg hat); have BK6 := aM (blk_grown SS.out.blk hg (Kd.R_ne SS.out.lst SS.out.blk (by decide))); clear ho hb hg hat ST hz0; have hz0 : w6.cell? ⟨gb, 0, none⟩ = some (.slice A4 x.length c4) := (blk_cell BK6.out 0).trans rfl; have hzf := blk_frozen BK6.out 0) | ((with_reducible refine gate_store (t := 47) (p := 79) rfl ?_); refine store_event (t := 47) (p := 79) (v := ?vo) (w1 := (w6.setCell ⟨gb, 0, none⟩ (.slice A6 y.length c6))) ?hg ?ho ?hn ?hr ?_; (case ho => rfl); (case hg => rfl); (case hn => rfl); (case hr => go_simp); intro w7 hw; have m0 := SS.out.push HO6.out HB6.out HG6.out; rw [← hw] at m0; have m0 := aM m0; have m1 := Kd.R_grown2 ST6.out rfl (impl_searched.grown_set w6 gb 0 (.slice A6 y.length c6)) (fun k hk => by cases hk; exact Kd.R_ne ST6.out BK6.out (by decide)); rw [← hw] at m1; have m1 := aM m1; clear SS ST6 HO6 HB6 HG6 BK6 hz0 hzf hw; have SS := m0; have ST := m1; clear m0 m1; have hz1 : w7.cell? ⟨gb, 1, none⟩ = some (.map (some b1)) := (blk_cell SS.out.blk 1).trans rfl; have hz2 : w7.cell? ⟨gb, 2, none⟩ = some (.map (some b2)) := (blk_cell SS.out.blk 2).trans rfl))
            go_roundg k2
            case measure => have := HK1.out; have := HK2.out; omega
            case rel => exact ⟨_, _, _, _, _, (wrap64 (j + 1)), rfl, H', ⟨by have := HK1.out; have := HK2.out; omega⟩, ST, ⟨SS.out.more⟩⟩
         ·rw [if_neg c9] at H
          exact absurd H (by simp)
        ·rw [if_neg c8] at H
         exact absurd H (by simp)
       ·rw [if_neg c7] at H
        have c7b0 : decide (j < (ts.length : Int)) = false := decide_eq_false c7
        clear c7
        have H' := aM H
        clear H
        go_wp2
        go_roundg k2
        case measure => have := HK1.out; have := HK2.out; omega
        case rel => exact ⟨v, x, f, g, c, (wrap64 (i + 1)), rfl, H', ⟨by have := HK1.out; have := HK2.out; omega⟩, ⟨⟨Kd.R_mono SS.out.lst (fun _ _ => trivial), SS.out.blk, SS.out.far, SS.out.way, SS.out.ge, SS.out.bel⟩⟩⟩
    ·rw [if_neg c6] at H
     exact absurd H (by simp)
   ·rw [if_neg c5] at H
    have c5b0 : decide (i < (x.length : Int)) = false := decide_eq_false c5
    clear c5
    obtain rfl := Option.some.inj H
    go_wp2
    go_ret
    exact ⟨gb, rfl, b1, b2, _, c, SS.out⟩

/-! ### impl_in: function 46 -/
def impl_in.f (a0 : Int) (a1 : Int) (a2 : Int) : Option (Bool) := if a0 ≥ a1 then (some (decide (a0 ≤ a2))) else (some false)
set_option maxHeartbeats 8000000 in
set_option maxRecDepth 100000 in
theorem impl_in.calls (a0 : Int) (a1 : Int) (a2 : Int) (r : Bool) (w : World) (h : impl_in.f a0 a1 a2 = some r) :
  Calls Try.prog 46 #[.int .i64 a0, .int .i64 a1, .int .i64 a2] w fun e w' => e = .returned (.bool r) ∧ Drawn0 w w' := by
 have H : (if a0 ≥ a1 then (some (decide (a0 ≤ a2))) else (some false)) = some r := h
 clear h
 by_cases c4 : a0 ≥ a1
 ·rw [if_pos c4] at H
  have c4b0 : decide (a1 ≤ a0) = true := decide_eq_true c4
  clear c4
  obtain rfl := Option.some.inj H
  go_enter Try.func46, Try.ntmps46
  go_wp2
  go_ret
  exact ⟨rfl, by repeat (first | exact Drawn0.refl _ | apply Drawn0.step)⟩
 ·rw [if_neg c4] at H
  have c4b0 : decide (a1 ≤ a0) = false := decide_eq_false c4
  clear c4
  obtain rfl := Option.some.inj H
  go_enter Try.func46, Try.ntmps46
  go_wp2
  go_ret
  exact ⟨rfl, by repeat (first | exact Drawn0.refl _ | apply Drawn0.step)⟩

/-! ### impl_Block_65: function 65 (told by hand) -/
theorem impl_Block_65.goesV_ {ops : Array Oper} {rest : List Oper} {oi : Oper} {a : Act} {w : World} {Q : Exit → Act → World → Prop} {f : FuncId} {lb : Array Value} {as_ : Array Operand} {ts : Array TypeId} {v : Operand} (N : Option Tmp) (hd : oi.dst = N) (hg : oi.guard = none) (args : Array Value)
  (hop : oi.op = .call { callee := .value v, args := as_, argTypes := ts }) (hv : a.eval v = .func (.func f) #[] lb) (hargs : as_.map a.eval = args) (eg : Go.Proofs.Enters Try.prog f)
  (h : Calls Try.prog f (args ++ lb) w fun e w' => ∃ v, e = .returned v ∧ wpList Try.prog ops Q rest (a.put N v) w') : wpList Try.prog ops Q (oi :: rest) a w := by
 refine wpList_plain hg fun K hK => ?_
 have he := eg (args ++ lb) w
 have hrun : (execOp a.eval oi).run Try.prog w = .ok (.enter f (args ++ lb)) w := by
  unfold execOp
  simp [hop, resolve, Deferred.ofValue, invoke, hv, hargs, he]
 unfold Oper.wp
 rw [hrun, Oper.upon_enter]
 refine h.mono fun e w'' hh => ?_
 obtain ⟨v, rfl, hk⟩ := hh
 subst hd
 exact hK _ _ hk
def impl_Block_65.l0 (rule : Nat → Int → Int → Int → Int → Option Bool) : Nat → List (S77) → Int → Int → Option (Int)
 | 0, _, _, _ => none
 | k + 1, x0, x7, x8 => if x8 < x7 then (if 0 ≤ x8 then (if x8 < (x0.length : Int) then ((rule k ((rd_T77 x0 x8).f0) ((rd_T77 x0 x8).f1) ((rd_T77 x0 x8).f2) ((rd_T77 x0 x8).f3)).bind fun t185 => (if t185 = true then (some x8) else (impl_Block_65.l0 rule k x0 x7 (wrap64 (x8 + 1))))) else (none)) else (none)) else (some (-1))
def impl_Block_65.f (rule : Nat → Int → Int → Int → Int → Option Bool) (k : Nat) (l0 : List (S77)) : Option (Int) := impl_Block_65.l0 rule k l0 (l0.length : Int) 0
theorem impl_Block_65.mono_l {rule : Nat → Int → Int → Int → Int → Option Bool} (hr : ∀ x0 x1 x2 x3 n, LeO (rule n x0 x1 x2 x3) (rule (n + 1) x0 x1 x2 x3)) : ∀ k, (∀ y0 y1 y2, LeO (impl_Block_65.l0 rule k y0 y1 y2) (impl_Block_65.l0 rule (k + 1) y0 y1 y2))
 | 0 => fun _ _ _ r h => by simp [impl_Block_65.l0] at h
 | k + 1 => by
  have ih0 := impl_Block_65.mono_l hr k
  ·intro y0 y1 y2
   unfold impl_Block_65.l0
   repeat' first
   | (with_reducible exact ih0 _ _ _)
   | (with_reducible exact hr _ _ _ _ _)
   | (with_reducible exact LeO.refl _)
   | (with_reducible exact LeO.none _)
   | (with_reducible refine LeO.ite ?_ ?_)
   | (with_reducible refine LeO.bind ?_ (fun _ => ?_))
   | exact ih0 _ _ _
   | exact hr _ _ _ _ _
   | exact LeO.none _
   | refine LeO.ite ?_ ?_
   | refine LeO.bind ?_ (fun _ => ?_)
theorem impl_Block_65.mono {rule : Nat → Int → Int → Int → Int → Option Bool} (hr : ∀ x0 x1 x2 x3 n, LeO (rule n x0 x1 x2 x3) (rule (n + 1) x0 x1 x2 x3)) : ∀ a0 k, LeO (impl_Block_65.f rule k a0) (impl_Block_65.f rule (k + 1) a0) := by
 intro a0 k
 have ih0 := impl_Block_65.mono_l hr k
 unfold impl_Block_65.f
 repeat' first
   | (with_reducible exact ih0 _ _ _)
   | (with_reducible exact hr _ _ _ _ _)
   | (with_reducible exact LeO.refl _)
   | (with_reducible exact LeO.none _)
   | (with_reducible refine LeO.ite ?_ ?_)
   | (with_reducible refine LeO.bind ?_ (fun _ => ?_))
   | exact ih0 _ _ _
   | exact hr _ _ _ _ _
   | exact LeO.none _
   | refine LeO.ite ?_ ?_
   | refine LeO.bind ?_ (fun _ => ?_)
set_option maxHeartbeats 8000000 in
set_option maxRecDepth 100000 in
theorem impl_Block_65.calls (g : Nat) (lb : Array Value) (eg : Go.Proofs.Enters Try.prog g) (rule : Nat → Int → Int → Int → Int → Option Bool) (k : Nat) (A0 : Option Addr) (c0 : Nat) (l0 : List (S77)) (r : Int) (w : World) (hr0 : Kd.C k77 w A0 l0.length l0) (hc0 : l0.length ≤ c0) 
  (hp : ∀ (j : Nat) (x y z u : Int) (b : Bool) (W : World), Below w.heap.size w W → rule j x y z u = some b → Calls Try.prog g (#[.agg #[.int .i64 x, .int .i64 y, .int .i64 z, .int .i64 u]] ++ lb) W fun e w' => e = .returned (.bool b) ∧ Below W.heap.size W w')
  (h : impl_Block_65.f rule k l0 = some r) :
  Calls Try.prog 65 #[.slice A0 l0.length c0, .func (.func g) #[] lb] w fun e w' => e = .returned (.int .i64 r) ∧ Below w.heap.size w w' := by
 have HP_ := aM hp
 clear hp
 have EG_ := aM eg
 clear eg
 have hu111 := Try.underlying77
 have HR0 := aM hr0
 have HC0 := aM hc0
 clear hr0 hc0
 have HB := aM (Below.refl w.heap.size w)
 have H : (impl_Block_65.l0 rule k l0 (l0.length : Int) 0) = some r := h
 clear h
 have H' := aM H
 clear H
 go_enter Try.func65, Try.ntmps65
 go_wp2
 go_loopg [8] k (fun kq v8 w' => ∃ (x8_1 : Int), v8 = .int .i64 x8_1 ∧ Aside0 (impl_Block_65.l0 rule kq l0 (l0.length : Int) x8_1 = some r) ∧ Aside0 (kq ≤ k) ∧ Aside0 (Below w.heap.size w w'))
 case atStart => exact ⟨(0), rfl, H', ⟨Nat.le_refl _⟩, HB⟩
 case round =>
  clear H'
  try clear c1
  try clear p2
  obtain ⟨x8_1, rfl, HA, HK1, HB⟩ := hrel
  cases gk with
  | zero => exact absurd HA.out (by simp [impl_Block_65.l0])
  | succ k1 =>
   have H := HA.out
   clear HA
   simp only [impl_Block_65.l0] at H
   by_cases c3 : x8_1 < (l0.length : Int)
   ·rw [if_pos c3] at H
    have c3b0 : decide (x8_1 < (l0.length : Int)) = true := decide_eq_true c3
    clear c3
    by_cases c4 : 0 ≤ x8_1
    ·rw [if_pos c4] at H
     have c4b0 : decide (0 ≤ x8_1) = true := decide_eq_true c4
     clear c4
     by_cases c5 : x8_1 < (l0.length : Int)
     ·rw [if_pos c5] at H
      have c5b0 : decide (x8_1 < (l0.length : Int)) = true := decide_eq_true c5
      clear c5
      replace H := Option.bind_eq_some_iff.mp H
      obtain ⟨t185, A60, H⟩ := H
      replace H : (if t185 = true then (some x8_1) else (impl_Block_65.l0 rule k1 l0 (l0.length : Int) (wrap64 (x8_1 + 1)))) = some r := H
      have A6 := aM A60
      clear A60
      by_cases c7 : t185 = true
      ·subst c7
       have H1 : (some x8_1) = some r := by rw [if_pos rfl] at H; exact H
       clear H; have H := H1; clear H1
       obtain rfl := Option.some.inj H
       have p184 : 0 ≤ (x8_1 : Int) := oT (by assumption)
       have q184 : x8_1 < (l0.length : Int) := oT (by assumption)
       obtain ⟨ad184, e184, hx184_0, hx184_1, hx184_2, hx184_3⟩ := at_T77 HR0.out x8_1 p184 q184
       cases e184
       replace hx184_0 := (HB.out.cell (World.block_lt_of_cell? w _ hx184_0)).trans hx184_0
       replace hx184_1 := (HB.out.cell (World.block_lt_of_cell? w _ hx184_1)).trans hx184_1
       replace hx184_2 := (HB.out.cell (World.block_lt_of_cell? w _ hx184_2)).trans hx184_2
       replace hx184_3 := (HB.out.cell (World.block_lt_of_cell? w _ hx184_3)).trans hx184_3
       replace p184 := eq_true p184
       replace q184 := eq_true q184
       go_wp2_with (first | ((with_reducible refine gate_dst (N := 16) rfl ?_); refine impl_Block_65.goesV_ (f := g) (lb := lb) (some 16) rfl rfl #[.agg #[.int .i64 ((rd_T77 l0 x8_1).f0), .int .i64 ((rd_T77 l0 x8_1).f1), .int .i64 ((rd_T77 l0 x8_1).f2), .int .i64 ((rd_T77 l0 x8_1).f3)]] rfl rfl (by simp only [mA, mB, mC]; all_goals rfl) EG_.out ?_; (with_reducible refine (HP_.out k1 ((rd_T77 l0 x8_1).f0) ((rd_T77 l0 x8_1).f1) ((rd_T77 l0 x8_1).f2) ((rd_T77 l0 x8_1).f3) true _ HB.out A6.out).mono ?_); rintro e w8 ⟨rfl, hb⟩; refine ⟨_, rfl, ?_⟩; replace HB := aM (below_step HB.out hb); (try clear hb)))
       go_ret
       exact ⟨rfl, HB.out⟩
      ·replace c7 := Bool.eq_false_iff.mpr c7
       subst c7
       have H1 : (impl_Block_65.l0 rule k1 l0 (l0.length : Int) (wrap64 (x8_1 + 1))) = some r := by rw [if_neg (show ¬ (false = true) by decide)] at H; exact H
       clear H; have H := H1; clear H1
       have H' := aM H
       clear H
       have p184 : 0 ≤ (x8_1 : Int) := oT (by assumption)
       have q184 : x8_1 < (l0.length : Int) := oT (by assumption)
       obtain ⟨ad184, e184, hx184_0, hx184_1, hx184_2, hx184_3⟩ := at_T77 HR0.out x8_1 p184 q184
       cases e184
       replace hx184_0 := (HB.out.cell (World.block_lt_of_cell? w _ hx184_0)).trans hx184_0
       replace hx184_1 := (HB.out.cell (World.block_lt_of_cell? w _ hx184_1)).trans hx184_1
       replace hx184_2 := (HB.out.cell (World.block_lt_of_cell? w _ hx184_2)).trans hx184_2
       replace hx184_3 := (HB.out.cell (World.block_lt_of_cell? w _ hx184_3)).trans hx184_3
       replace p184 := eq_true p184
       replace q184 := eq_true q184
       go_wp2_with (first | ((with_reducible refine gate_dst (N := 16) rfl ?_); refine impl_Block_65.goesV_ (f := g) (lb := lb) (some 16) rfl rfl #[.agg #[.int .i64 ((rd_T77 l0 x8_1).f0), .int .i64 ((rd_T77 l0 x8_1).f1), .int .i64 ((rd_T77 l0 x8_1).f2), .int .i64 ((rd_T77 l0 x8_1).f3)]] rfl rfl (by simp only [mA, mB, mC]; all_goals rfl) EG_.out ?_; (with_reducible refine (HP_.out k1 ((rd_T77 l0 x8_1).f0) ((rd_T77 l0 x8_1).f1) ((rd_T77 l0 x8_1).f2) ((rd_T77 l0 x8_1).f3) false _ HB.out A6.out).mono ?_); rintro e w9 ⟨rfl, hb⟩; refine ⟨_, rfl, ?_⟩; replace HB := aM (below_step HB.out hb); (try clear hb)))
       go_roundg k1
       case measure => have := HK1.out; omega
       case rel => exact ⟨(wrap64 (x8_1 + 1)), rfl, H', ⟨by have := HK1.out; omega⟩, HB⟩
     ·rw [if_neg c5] at H
      exact absurd H (by simp)
    ·rw [if_neg c4] at H
     exact absurd H (by simp)
   ·rw [if_neg c3] at H
    have c3b0 : decide (x8_1 < (l0.length : Int)) = false := decide_eq_false c3
    clear c3
    obtain rfl := Option.some.inj H
    go_wp2
    go_ret
    exact ⟨rfl, HB.out⟩




end Go.Proofs.Ytehhfcbhoaocdaa.PF
