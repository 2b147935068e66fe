-- written by a program of this session's (wip/tools), over the kit's print
import Derived.Test.YtppbohghongfmaaDoorPNx0
import Derived.Test.YtppbohghongfmaaDoorPNx2
import Derived.Test.YtppbohghongfmaaDoorPNx3
-- squeezed
-- squeezed twice
namespace Go.Proofs.YtppbohghongfmaaDoor.PN
open Go.RowKit Go.Proofs.YtppbohghongfmaaDoorW.PrintWords Go.Proofs.YtppbohghongfmaaDoorW.PrintLast Go.Proofs.YtppbohghongfmaaDoorW.PrintMore
attribute [local go_sem] max2_int min2_int max_two min_two max_three min_three max_four min_four   -- for this text's walks alone
set_option linter.unusedVariables false
set_option linter.unusedSimpArgs false

/-! ### impl_FirstPairMoves: function 6 -/
mutual
def impl_FirstPairMoves.l0 : Nat → ByteArray → ByteArray → List Int → List Int → Option (List Int × Bool)
 | 0, _, _, _, _ => none
 | k + 1, x0, x1, x6, x9 => if x0.toList = x1.toList then (some (x9, true)) else ((impl_pairMoves.f k x0).bind fun t261 => (impl_FirstPairMoves.l1 k x0 x1 x6 x9 t261 (t261.length : Int) 0))
def impl_FirstPairMoves.l1 : Nat → ByteArray → ByteArray → List Int → List Int → List Int → Int → Int → Option (List Int × Bool)
 | 0, _, _, _, _, _, _, _ => none
 | k + 1, x0, x1, x6, x9, x33, x34, x35 => if x35 < x34 then (if 0 ≤ x35 then (if x35 < (x33.length : Int) then ((impl_paired.f x0 (rd x33 x35)).bind fun t265 => ((impl_number.f k t265).bind fun t266 => (if 0 ≤ t266 then (if t266 < (x6.length : Int) then ((impl_number.f k x0).bind fun t268 => (if 0 ≤ t268 then (if t268 < (x6.length : Int) then (if (rd x6 t266) = (wrap64 ((rd x6 t268) - 1)) then (if x9.length < 17592186044416 then (impl_FirstPairMoves.l0 k t265 x1 x6 (x9 ++ [rd x33 x35])) else (none)) else (impl_FirstPairMoves.l1 k x0 x1 x6 x9 x33 x34 (wrap64 (x35 + 1)))) else (none)) else (none))) else (none)) else (none)))) else (none)) else (none)) else (impl_FirstPairMoves.l0 k x0 x1 x6 x9)
end
def impl_FirstPairMoves.f (k : Nat) (a0 : ByteArray) (a1 : ByteArray) : Option (List Int × Bool) := (impl_arePaired.f a0 a1).bind fun t249 => (if t249 = true then ((impl_search.f k a1).bind fun bt250 => ((impl_number.f k a0).bind fun t259 => (if 0 ≤ t259 then (if t259 < (bt250.1.length : Int) then (if (rd bt250.1 t259) > 2000 then (some (([] : List Int), false)) else (impl_FirstPairMoves.l0 k a0 a1 bt250.1 ([] : List Int))) else (none)) else (none)))) else (some (([] : List Int), false)))
theorem impl_FirstPairMoves.mono_l : ∀ k, (∀ y0 y1 y2 y3, LeO (impl_FirstPairMoves.l0 k y0 y1 y2 y3) (impl_FirstPairMoves.l0 (k + 1) y0 y1 y2 y3)) ∧ (∀ y0 y1 y2 y3 y4 y5 y6, LeO (impl_FirstPairMoves.l1 k y0 y1 y2 y3 y4 y5 y6) (impl_FirstPairMoves.l1 (k + 1) y0 y1 y2 y3 y4 y5 y6))
 | 0 => ⟨fun _ _ _ _ r h => by simp [impl_FirstPairMoves.l0] at h, fun _ _ _ _ _ _ _ r h => by simp [impl_FirstPairMoves.l1] at h⟩
 | k + 1 => by
  obtain ⟨ih0, ih1⟩ := impl_FirstPairMoves.mono_l k
  refine ⟨?_, ?_⟩
  ·intro y0 y1 y2 y3
   unfold impl_FirstPairMoves.l0
   with_reducible repeat' first | exact ih0 _ _ _ _ | exact ih1 _ _ _ _ _ _ _ | exact impl_number.mono _ _ | exact impl_pairMoves.mono _ _ | exact impl_search.mono _ _ | exact LeO.refl _ | exact LeO.none _ | refine LeO.ite ?_ ?_ | refine LeO.bind ?_ (fun _ => ?_)
  ·intro y0 y1 y2 y3 y4 y5 y6
   unfold impl_FirstPairMoves.l1
   with_reducible repeat' first | exact ih0 _ _ _ _ | exact ih1 _ _ _ _ _ _ _ | exact impl_number.mono _ _ | exact impl_pairMoves.mono _ _ | exact impl_search.mono _ _ | exact LeO.refl _ | exact LeO.none _ | refine LeO.ite ?_ ?_ | refine LeO.bind ?_ (fun _ => ?_)
theorem impl_FirstPairMoves.mono : ∀ a0 a1 k, LeO (impl_FirstPairMoves.f k a0 a1) (impl_FirstPairMoves.f (k + 1) a0 a1) := by
 intro a0 a1 k
 obtain ⟨ih0, ih1⟩ := impl_FirstPairMoves.mono_l k
 unfold impl_FirstPairMoves.f
 with_reducible repeat' first | exact ih0 _ _ _ _ | exact ih1 _ _ _ _ _ _ _ | exact impl_number.mono _ _ | exact impl_pairMoves.mono _ _ | exact impl_search.mono _ _ | exact LeO.refl _ | exact LeO.none _ | refine LeO.ite ?_ ?_ | refine LeO.bind ?_ (fun _ => ?_)
set_option maxHeartbeats 8000000 in
set_option maxRecDepth 100000 in
theorem impl_FirstPairMoves.calls (k : Nat) (a0 : ByteArray) (a1 : ByteArray) (r1 : List Int) (r2 : Bool) (w : World) (h : impl_FirstPairMoves.f k a0 a1 = some (r1, r2)) :
  Calls Tryd.prog 6 #[.string a0, .string a1] w fun e w' => ∃ v0_ : Value, e = .returned (.tuple #[v0_, .bool r2]) ∧ Kd.R (Kd.int .i64) 3 w' w.heap.size (fun _ => True) v0_ r1 ∧ Below w.heap.size w w' := by
 have HB := aM (Below.refl w.heap.size w)
 have H := h; clear h; unfold impl_FirstPairMoves.f at H
 replace H := jS H; obtain ⟨t249, A3, H⟩ := H
 by_cases c4 : t249 = true
 ·subst c4
  replace H := jT H
  replace H := jS H; obtain ⟨⟨t250, t251, t252⟩, A5, H⟩ := H; dsimp only at H
  replace H := jS H; obtain ⟨t259, A6, H⟩ := H
  replace H := iC H; obtain ⟨c7, H⟩ := H
  have c7b0 := decide_eq_true c7
  clear c7
  replace H := iC H; obtain ⟨c8, H⟩ := H
  have c8b0 := decide_eq_true c8
  clear c8
  replace H := iO H; obtain ⟨c9, H⟩ | ⟨c9, H⟩ := H
  ·have c9b0 := decide_eq_true c9
   clear c9
   simp only [Option.some.injEq, Prod.mk.injEq] at H
   obtain ⟨rfl, rfl⟩ := H
   go_enter Tryd.func6, Tryd.ntmps6
   go_wp2_with (first | (go_at_call 31; (with_reducible refine (impl_arePaired.calls a0 a1 true _ A3.out).mono ?_); rintro e w10 ⟨rfl, hb⟩; replace HB := aM (below_step HB.out hb); (try clear hb)) | (go_at_call 32; (with_reducible refine (impl_search.calls k a1 t250 t251 t252 _ A5.out).mono ?_); rintro e w11 ⟨v253, v255, v257, rfl, ho0, ho1, ho2, hb⟩; have HO254 := aM (Kd.R_lower ho0 (below_size HB.out)); have HO256 := aM (Kd.R_lower ho1 (below_size HB.out)); have HO258 := aM (Kd.R_lower ho2 (below_size HB.out)); replace HB := aM (below_step HB.out hb); (try clear hb); (try clear ho0); (try clear ho1); (try clear ho2)) | (go_at_call 33; (with_reducible refine (impl_number.calls k a0 t259 _ A6.out).mono ?_); rintro e w' ⟨rfl, ⟨nd, rfl⟩⟩; (try first | exact ⟨rfl, _, World.drewN_drewN _ _ _⟩ | exact ⟨rfl, _, Eq.trans (World.drewN_drewN _ _ _) (congrArg (World.drewN _) (Nat.add_assoc _ _ _))⟩); obtain ⟨Ao12, co12, eo12⟩ := Kd.R_slice HO254.out; subst eo12; obtain ⟨ad260, e260, hx260_0, p260, q260⟩ := aZ (Kd.at_int (Kd.R_reads' HO254.out).2.2 t259); cases e260))
   repeat (go_quiet (first | (go_at_call 31; (with_reducible refine (impl_arePaired.calls a0 a1 true _ A3.out).mono ?_); rintro e w10 ⟨rfl, hb⟩; replace HB := aM (below_step HB.out hb); (try clear hb)) | (go_at_call 32; (with_reducible refine (impl_search.calls k a1 t250 t251 t252 _ A5.out).mono ?_); rintro e w11 ⟨v253, v255, v257, rfl, ho0, ho1, ho2, hb⟩; have HO254 := aM (Kd.R_lower ho0 (below_size HB.out)); have HO256 := aM (Kd.R_lower ho1 (below_size HB.out)); have HO258 := aM (Kd.R_lower ho2 (below_size HB.out)); replace HB := aM (below_step HB.out hb); (try clear hb); (try clear ho0); (try clear ho1); (try clear ho2)) | (go_at_call 33; (with_reducible refine (impl_number.calls k a0 t259 _ A6.out).mono ?_); rintro e w' ⟨rfl, ⟨nd, rfl⟩⟩; (try first | exact ⟨rfl, _, World.drewN_drewN _ _ _⟩ | exact ⟨rfl, _, Eq.trans (World.drewN_drewN _ _ _) (congrArg (World.drewN _) (Nat.add_assoc _ _ _))⟩); obtain ⟨Ao12, co12, eo12⟩ := Kd.R_slice HO254.out; subst eo12; obtain ⟨ad260, e260, hx260_0, p260, q260⟩ := aZ (Kd.at_int (Kd.R_reads' HO254.out).2.2 t259); cases e260)); try go_wp2_with (first | (go_at_call 31; (with_reducible refine (impl_arePaired.calls a0 a1 true _ A3.out).mono ?_); rintro e w10 ⟨rfl, hb⟩; replace HB := aM (below_step HB.out hb); (try clear hb)) | (go_at_call 32; (with_reducible refine (impl_search.calls k a1 t250 t251 t252 _ A5.out).mono ?_); rintro e w11 ⟨v253, v255, v257, rfl, ho0, ho1, ho2, hb⟩; have HO254 := aM (Kd.R_lower ho0 (below_size HB.out)); have HO256 := aM (Kd.R_lower ho1 (below_size HB.out)); have HO258 := aM (Kd.R_lower ho2 (below_size HB.out)); replace HB := aM (below_step HB.out hb); (try clear hb); (try clear ho0); (try clear ho1); (try clear ho2)) | (go_at_call 33; (with_reducible refine (impl_number.calls k a0 t259 _ A6.out).mono ?_); rintro e w' ⟨rfl, ⟨nd, rfl⟩⟩; (try first | exact ⟨rfl, _, World.drewN_drewN _ _ _⟩ | exact ⟨rfl, _, Eq.trans (World.drewN_drewN _ _ _) (congrArg (World.drewN _) (Nat.add_assoc _ _ _))⟩); obtain ⟨Ao12, co12, eo12⟩ := Kd.R_slice HO254.out; subst eo12; obtain ⟨ad260, e260, hx260_0, p260, q260⟩ := aZ (Kd.at_int (Kd.R_reads' HO254.out).2.2 t259); cases e260)))
   go_ret2
   exact ⟨_, rfl, by first | exact Kd.R_nil _ _ _ _ _ | exact Kd.N_nil _ _ _ _ _ | exact Kd.V_nil _ _ _ _ _ | exact Kd.Q_nil _ _ _ _ _ | exact Kd.S_nil _ _ _ _ _, bQ⟩
  ·have c9b0 := decide_eq_false c9
   clear c9
   have H' := aM H
   clear H
   go_enter Tryd.func6, Tryd.ntmps6
   go_wp2_with (first | (go_at_call 31; (with_reducible refine (impl_arePaired.calls a0 a1 true _ A3.out).mono ?_); rintro e w13 ⟨rfl, hb⟩; replace HB := aM (below_step HB.out hb); (try clear hb)) | (go_at_call 32; (with_reducible refine (impl_search.calls k a1 t250 t251 t252 _ A5.out).mono ?_); rintro e w14 ⟨v253, v255, v257, rfl, ho0, ho1, ho2, hb⟩; have HO254 := aM (Kd.R_lower ho0 (below_size HB.out)); have HO256 := aM (Kd.R_lower ho1 (below_size HB.out)); have HO258 := aM (Kd.R_lower ho2 (below_size HB.out)); replace HB := aM (below_step HB.out hb); (try clear hb); (try clear ho0); (try clear ho1); (try clear ho2)) | (go_at_call 33; (with_reducible refine (impl_number.calls k a0 t259 _ A6.out).mono ?_); rintro e w' ⟨rfl, ⟨nd, rfl⟩⟩; (try first | exact ⟨rfl, _, World.drewN_drewN _ _ _⟩ | exact ⟨rfl, _, Eq.trans (World.drewN_drewN _ _ _) (congrArg (World.drewN _) (Nat.add_assoc _ _ _))⟩); obtain ⟨Ao15, co15, eo15⟩ := Kd.R_slice HO254.out; subst eo15; obtain ⟨ad260, e260, hx260_0, p260, q260⟩ := aZ (Kd.at_int (Kd.R_reads' HO254.out).2.2 t259); cases e260))
   repeat (go_quiet (first | (go_at_call 31; (with_reducible refine (impl_arePaired.calls a0 a1 true _ A3.out).mono ?_); rintro e w13 ⟨rfl, hb⟩; replace HB := aM (below_step HB.out hb); (try clear hb)) | (go_at_call 32; (with_reducible refine (impl_search.calls k a1 t250 t251 t252 _ A5.out).mono ?_); rintro e w14 ⟨v253, v255, v257, rfl, ho0, ho1, ho2, hb⟩; have HO254 := aM (Kd.R_lower ho0 (below_size HB.out)); have HO256 := aM (Kd.R_lower ho1 (below_size HB.out)); have HO258 := aM (Kd.R_lower ho2 (below_size HB.out)); replace HB := aM (below_step HB.out hb); (try clear hb); (try clear ho0); (try clear ho1); (try clear ho2)) | (go_at_call 33; (with_reducible refine (impl_number.calls k a0 t259 _ A6.out).mono ?_); rintro e w' ⟨rfl, ⟨nd, rfl⟩⟩; (try first | exact ⟨rfl, _, World.drewN_drewN _ _ _⟩ | exact ⟨rfl, _, Eq.trans (World.drewN_drewN _ _ _) (congrArg (World.drewN _) (Nat.add_assoc _ _ _))⟩); obtain ⟨Ao15, co15, eo15⟩ := Kd.R_slice HO254.out; subst eo15; obtain ⟨ad260, e260, hx260_0, p260, q260⟩ := aZ (Kd.at_int (Kd.R_reads' HO254.out).2.2 t259); cases e260)); try go_wp2_with (first | (go_at_call 31; (with_reducible refine (impl_arePaired.calls a0 a1 true _ A3.out).mono ?_); rintro e w13 ⟨rfl, hb⟩; replace HB := aM (below_step HB.out hb); (try clear hb)) | (go_at_call 32; (with_reducible refine (impl_search.calls k a1 t250 t251 t252 _ A5.out).mono ?_); rintro e w14 ⟨v253, v255, v257, rfl, ho0, ho1, ho2, hb⟩; have HO254 := aM (Kd.R_lower ho0 (below_size HB.out)); have HO256 := aM (Kd.R_lower ho1 (below_size HB.out)); have HO258 := aM (Kd.R_lower ho2 (below_size HB.out)); replace HB := aM (below_step HB.out hb); (try clear hb); (try clear ho0); (try clear ho1); (try clear ho2)) | (go_at_call 33; (with_reducible refine (impl_number.calls k a0 t259 _ A6.out).mono ?_); rintro e w' ⟨rfl, ⟨nd, rfl⟩⟩; (try first | exact ⟨rfl, _, World.drewN_drewN _ _ _⟩ | exact ⟨rfl, _, Eq.trans (World.drewN_drewN _ _ _) (congrArg (World.drewN _) (Nat.add_assoc _ _ _))⟩); obtain ⟨Ao15, co15, eo15⟩ := Kd.R_slice HO254.out; subst eo15; obtain ⟨ad260, e260, hx260_0, p260, q260⟩ := aZ (Kd.at_int (Kd.R_reads' HO254.out).2.2 t259); cases e260)))
   go_loopg [0, 9] k (fun kq v0 v9 w' => ∃ (x0_1 : ByteArray) (x9_1 : List Int), v0 = .string x0_1 ∧ Aside0 (impl_FirstPairMoves.l0 kq x0_1 a1 t250 x9_1 = some (r1, r2)) ∧ Aside0 (kq ≤ k) ∧ Aside0 (Kd.R (Kd.int .i64) 3 w' w.heap.size (fun k_ => some k_ ≠ (v9 : Value).ownBlock) (.slice (some ad260) t250.length co15) t250) ∧ Aside0 (Kd.R (Kd.int .i64) 3 w' w.heap.size (fun k_ => some k_ ≠ ((.slice (some ad260) t250.length co15) : Value).ownBlock) v9 x9_1) ∧ Aside0 (Below w.heap.size w w'))
   case atStart => exact ⟨(a0), (([] : List Int)), rfl, H', ⟨Nat.le_refl _⟩, ⟨by (with_reducible repeat (first | apply rA | apply rN | apply rD)); exact Kd.R_mono HO254.out (fun _ hk => (by simp [Value.ownBlock]))⟩, ⟨by first | exact Kd.R_nil _ _ _ _ _ | exact Kd.N_nil _ _ _ _ _ | exact Kd.V_nil _ _ _ _ _ | exact Kd.Q_nil _ _ _ _ _ | exact Kd.S_nil _ _ _ _ _⟩, ⟨bQ⟩⟩
   case round =>
    clear H'
    clear c7b0 c8b0 c9b0 hx260_0 p260 q260
    obtain ⟨x0_1, x9_1, rfl, HA, HK1, HO_6, HO_9, HB⟩ := hrel
    cases gk with
    | zero => exact absurd HA.out (by simp [impl_FirstPairMoves.l0])
    | succ k1 =>
     have H := HA.out
     clear HA
     simp only [impl_FirstPairMoves.l0] at H
     replace H := iO H; obtain ⟨c16, H⟩ | ⟨c16, H⟩ := H
     ·have c16b0 : (x0_1.toList == a1.toList) = true := beq_iff_eq.mpr c16
      have c16b1 : (x0_1.toList != a1.toList) = false := bne_eq_false_iff_eq.mpr c16
      clear c16
      simp only [Option.some.injEq, Prod.mk.injEq] at H
      obtain ⟨rfl, rfl⟩ := H
      go_wp2
      repeat (go_quiet (fail); try go_wp2)
      go_ret2
      exact ⟨_, rfl, by (with_reducible repeat (first | apply rA | apply rN | apply rD)); exact Kd.R_mono HO_9.out (fun _ hk => trivial), HB.out⟩
     ·have c16b0 : (x0_1.toList == a1.toList) = false := beq_eq_false_iff_ne.mpr c16
      have c16b1 : (x0_1.toList != a1.toList) = true := bne_iff_ne.mpr c16
      replace H := jS H; obtain ⟨t261, A17, H⟩ := H
      have H' := aM H
      clear H
      go_wp2_with (first | (go_at_call 34; (with_reducible refine (impl_pairMoves.calls k1 x0_1 t261 _ A17.out).mono ?_); rintro e w18 ⟨v262, rfl, ho0, hb⟩; have HO263 := aM (Kd.R_lower (Kd.R_new' (Kd.R_new' ho0 (Kd.R_lt HO_6.out)) (Kd.R_lt HO_9.out)) (below_size HB.out)); replace HO_6 := aM (Kd.R_elder' HO_6.out (Kd.R_base ho0) hb); replace HO_9 := aM (Kd.R_elder' HO_9.out (Kd.R_base ho0) hb); replace HB := aM (below_step HB.out hb); (try clear hb); (try clear ho0); obtain ⟨Ao19, co19, eo19⟩ := Kd.R_slice HO263.out; subst eo19))
      repeat (go_quiet (first | (go_at_call 34; (with_reducible refine (impl_pairMoves.calls k1 x0_1 t261 _ A17.out).mono ?_); rintro e w18 ⟨v262, rfl, ho0, hb⟩; have HO263 := aM (Kd.R_lower (Kd.R_new' (Kd.R_new' ho0 (Kd.R_lt HO_6.out)) (Kd.R_lt HO_9.out)) (below_size HB.out)); replace HO_6 := aM (Kd.R_elder' HO_6.out (Kd.R_base ho0) hb); replace HO_9 := aM (Kd.R_elder' HO_9.out (Kd.R_base ho0) hb); replace HB := aM (below_step HB.out hb); (try clear hb); (try clear ho0); obtain ⟨Ao19, co19, eo19⟩ := Kd.R_slice HO263.out; subst eo19)); try go_wp2_with (first | (go_at_call 34; (with_reducible refine (impl_pairMoves.calls k1 x0_1 t261 _ A17.out).mono ?_); rintro e w18 ⟨v262, rfl, ho0, hb⟩; have HO263 := aM (Kd.R_lower (Kd.R_new' (Kd.R_new' ho0 (Kd.R_lt HO_6.out)) (Kd.R_lt HO_9.out)) (below_size HB.out)); replace HO_6 := aM (Kd.R_elder' HO_6.out (Kd.R_base ho0) hb); replace HO_9 := aM (Kd.R_elder' HO_9.out (Kd.R_base ho0) hb); replace HB := aM (below_step HB.out hb); (try clear hb); (try clear ho0); obtain ⟨Ao19, co19, eo19⟩ := Kd.R_slice HO263.out; subst eo19)))
      go_loopg [0, 9, 35] k1 (fun kq v0 v9 v35 w' => ∃ (x0_2 : ByteArray) (x9_2 : List Int) (x35_2 : Int), v0 = .string x0_2 ∧ v35 = .int .i64 x35_2 ∧ Aside0 (impl_FirstPairMoves.l1 kq x0_2 a1 t250 x9_2 t261 (t261.length : Int) x35_2 = some (r1, r2)) ∧ Aside0 (kq ≤ k1) ∧ Aside0 (Kd.R (Kd.int .i64) 3 w' w.heap.size (fun k_ => some k_ ≠ (v9 : Value).ownBlock ∧ some k_ ≠ ((.slice Ao19 t261.length co19) : Value).ownBlock) (.slice (some ad260) t250.length co15) t250) ∧ Aside0 (Kd.R (Kd.int .i64) 3 w' w.heap.size (fun k_ => some k_ ≠ ((.slice (some ad260) t250.length co15) : Value).ownBlock ∧ some k_ ≠ ((.slice Ao19 t261.length co19) : Value).ownBlock) v9 x9_2) ∧ Aside0 (Kd.R (Kd.int .i64) 3 w' w.heap.size (fun k_ => some k_ ≠ ((.slice (some ad260) t250.length co15) : Value).ownBlock ∧ some k_ ≠ (v9 : Value).ownBlock) (.slice Ao19 t261.length co19) t261) ∧ Aside0 (Below w.heap.size w w'))
      case atStart => exact ⟨(x0_1), (x9_1), (0), rfl, rfl, H', ⟨Nat.le_refl _⟩, HO_6, HO_9, ⟨by (with_reducible repeat (first | apply rA | apply rN | apply rD)); exact Kd.R_mono HO263.out (fun _ hk => ⟨hk.1.2, hk.2⟩)⟩, HB⟩
      case round =>
       clear H'
       clear c16 c16b0 c16b1
       obtain ⟨x0_2, x9_2, x35_2, rfl, rfl, HA, HK2, HO_6, HO_9, HO_33, HB⟩ := hrel
       cases gk with
       | zero => exact absurd HA.out (by simp [impl_FirstPairMoves.l1])
       | succ k2 =>
        have H := HA.out
        clear HA
        simp only [impl_FirstPairMoves.l1] at H
        replace H := iO H; obtain ⟨c20, H⟩ | ⟨c20, H⟩ := H
        ·have c20b0 := decide_eq_true c20
         clear c20
         replace H := iC H; obtain ⟨c21, H⟩ := H
         have c21b0 := decide_eq_true c21
         clear c21
         replace H := iN H; obtain ⟨c22b0, H⟩ := H
         replace H := jS H; obtain ⟨t265, A23, H⟩ := H
         replace H := jS H; obtain ⟨t266, A24, H⟩ := H
         replace H := iC H; obtain ⟨c25, H⟩ := H
         have c25b0 := decide_eq_true c25
         clear c25
         replace H := iN H; obtain ⟨c26b0, H⟩ := H
         replace H := jS H; obtain ⟨t268, A27, H⟩ := H
         replace H := iC H; obtain ⟨c28, H⟩ := H
         have c28b0 := decide_eq_true c28
         clear c28
         replace H := iC H; obtain ⟨c29, H⟩ := H
         have c29b0 := decide_eq_true c29
         clear c29
         replace H := iO H; obtain ⟨c30, H⟩ | ⟨c30, H⟩ := H
         ·have c30b0 : ((rd t250 t266) == (wrap64 ((rd t250 t268) - 1))) = true := beq_iff_eq.mpr c30
          have c30q : ((rd t250 t266) == IntKind.i64.wrap ((rd t250 t268) - 1)) = true := by rw [i64_w]; exact c30b0
          have c30b1 : ((rd t250 t266) != (wrap64 ((rd t250 t268) - 1))) = false := bne_eq_false_iff_eq.mpr c30
          clear c30
          replace H := iC H; obtain ⟨c31, H⟩ := H
          have LMc31 := aM c31
          clear c31
          obtain ⟨y270, Ny270, h_⟩ := yG (α := List Int) (x9_2 ++ [rd t261 x35_2]); rw [← h_] at H; clear h_
          have H' := aM H
          clear H; obtain ⟨ad264, e264, hx264_0, p264, q264⟩ := aZ (Kd.at_int (Kd.R_reads' HO_33.out).2.2 x35_2); cases e264
          go_wp2_with (first | (go_at_call 35; (with_reducible refine (impl_paired.calls x0_2 (rd t261 x35_2) t265 _ A23.out).mono ?_); rintro e w32 ⟨rfl, hb⟩; replace HO_6 := aM (Kd.R_below HO_6.out hb); replace HO_9 := aM (Kd.R_below HO_9.out hb); replace HO_33 := aM (Kd.R_below HO_33.out hb); replace HB := aM (below_step HB.out hb); (try clear hb)) | (go_at_call 33; (with_reducible refine (impl_number.calls k2 t265 t266 _ A24.out).mono ?_); rintro e w' ⟨rfl, ⟨nd, rfl⟩⟩; (try first | exact ⟨rfl, _, World.drewN_drewN _ _ _⟩ | exact ⟨rfl, _, Eq.trans (World.drewN_drewN _ _ _) (congrArg (World.drewN _) (Nat.add_assoc _ _ _))⟩); obtain ⟨ad267, e267, hx267_0, p267, q267⟩ := aZ (Kd.at_int (Kd.R_reads' HO_6.out).2.2 t266); cases e267) | (go_at_call 33; (with_reducible refine (impl_number.calls k2 x0_2 t268 _ A27.out).mono ?_); rintro e w' ⟨rfl, ⟨nd, rfl⟩⟩; (try first | exact ⟨rfl, _, World.drewN_drewN _ _ _⟩ | exact ⟨rfl, _, Eq.trans (World.drewN_drewN _ _ _) (congrArg (World.drewN _) (Nat.add_assoc _ _ _))⟩); obtain ⟨ad269, e269, hx269_0, p269, q269⟩ := aZ (Kd.at_int (Kd.R_reads' HO_6.out).2.2 t268); cases e269) | ((with_reducible refine gate_builtin (b := .append) (xs := #[.tmp 54, .tmp 56]) rfl ?_); at_builtin; refine Kd.R_append (Kd.int .i64) (w0 := w) w.heap.size rfl (.tmp 54) (.tmp 56) 26 3 (.int .i64 0) 8 rfl Tryd.underlying26 info3 rfl (by decide) (by omega) u9 x9_2 (rd t261 x35_2) [.int .i64 (rd t261 x35_2)] (fun k_ => some k_ ≠ (.slice (some ad260) t250.length co15 : Value).ownBlock ∧ some k_ ≠ (.slice (some ad264) t261.length co19 : Value).ownBlock) (fun _ => False) rfl rfl ?aP (fun _ hk => hk.elim) ?aF ?aO ?aB ?aS ?aL ?_; (case aP => exact rfl); (case aB => exact HB.out); (case aF => exact (fun k_ hk => ⟨Kd.fresh' (Kd.R_lt HO_6.out) k_ hk, Kd.fresh' (Kd.R_lt HO_33.out) k_ hk⟩)); (case aO => exact HO_9.out); (case aS => exact (below_size HB.out)); (case aL => have := LMc31.out; omega); intro v271 w33 ho hb hg hat; rw [← Ny270.out] at ho; replace HO_6 := aM (Kd.R_after (ok := (fun k_ => some k_ ≠ (.slice (some ad264) t261.length co19 : Value).ownBlock)) (Kd.R_mono HO_6.out (fun _ hk => ⟨hk.2, hk.1⟩)) hg hat); replace HO_33 := aM (Kd.R_after (ok := (fun k_ => some k_ ≠ (.slice (some ad260) t250.length co15 : Value).ownBlock)) HO_33.out hg hat); replace HB := aM (hb); have HO272 := aM (ho); clear ho hb hg hat))
          repeat (go_quiet (first | (go_at_call 35; (with_reducible refine (impl_paired.calls x0_2 (rd t261 x35_2) t265 _ A23.out).mono ?_); rintro e w32 ⟨rfl, hb⟩; replace HO_6 := aM (Kd.R_below (rQ HO_6.out) hb); replace HO_9 := aM (Kd.R_below (rQ HO_9.out) hb); replace HO_33 := aM (Kd.R_below (rQ HO_33.out) hb); replace HB := aM (below_step bQ hb); (try clear hb)) | (go_at_call 33; (with_reducible refine (impl_number.calls k2 t265 t266 _ A24.out).mono ?_); rintro e w' ⟨rfl, ⟨nd, rfl⟩⟩; (try first | exact ⟨rfl, _, World.drewN_drewN _ _ _⟩ | exact ⟨rfl, _, Eq.trans (World.drewN_drewN _ _ _) (congrArg (World.drewN _) (Nat.add_assoc _ _ _))⟩); obtain ⟨ad267, e267, hx267_0, p267, q267⟩ := aZ (Kd.at_int (Kd.R_reads' HO_6.out).2.2 t266); cases e267) | (go_at_call 33; (with_reducible refine (impl_number.calls k2 x0_2 t268 _ A27.out).mono ?_); rintro e w' ⟨rfl, ⟨nd, rfl⟩⟩; (try first | exact ⟨rfl, _, World.drewN_drewN _ _ _⟩ | exact ⟨rfl, _, Eq.trans (World.drewN_drewN _ _ _) (congrArg (World.drewN _) (Nat.add_assoc _ _ _))⟩); obtain ⟨ad269, e269, hx269_0, p269, q269⟩ := aZ (Kd.at_int (Kd.R_reads' HO_6.out).2.2 t268); cases e269) | ((with_reducible refine gate_builtin (b := .append) (xs := #[.tmp 54, .tmp 56]) rfl ?_); at_builtin; refine Kd.R_append (Kd.int .i64) (w0 := w) w.heap.size rfl (.tmp 54) (.tmp 56) 26 3 (.int .i64 0) 8 rfl Tryd.underlying26 info3 rfl (by decide) (by omega) u9 x9_2 (rd t261 x35_2) [.int .i64 (rd t261 x35_2)] (fun k_ => some k_ ≠ (.slice (some ad260) t250.length co15 : Value).ownBlock ∧ some k_ ≠ (.slice (some ad264) t261.length co19 : Value).ownBlock) (fun _ => False) rfl rfl ?aP (fun _ hk => hk.elim) ?aF ?aO ?aB ?aS ?aL ?_; (case aP => exact rfl); (case aB => exact bQ); (case aF => exact (fun k_ hk => ⟨Kd.fresh' (Kd.R_lt (rQ HO_6.out)) k_ hk, Kd.fresh' (Kd.R_lt (rQ HO_33.out)) k_ hk⟩)); (case aO => exact (rQ HO_9.out)); (case aS => exact (below_size bQ)); (case aL => have := LMc31.out; omega); intro v271 w33 ho hb hg hat; rw [← Ny270.out] at ho; replace HO_6 := aM (Kd.R_after (ok := (fun k_ => some k_ ≠ (.slice (some ad264) t261.length co19 : Value).ownBlock)) (by (with_reducible repeat (first | apply rA | apply rN | apply rD)); exact Kd.R_mono HO_6.out (fun _ hk => ⟨hk.2, hk.1⟩)) hg hat); replace HO_33 := aM (Kd.R_after (ok := (fun k_ => some k_ ≠ (.slice (some ad260) t250.length co15 : Value).ownBlock)) (rQ HO_33.out) hg hat); replace HB := aM (hb); have HO272 := aM (ho); clear ho hb hg hat)); try go_wp2_with (first | (go_at_call 35; (with_reducible refine (impl_paired.calls x0_2 (rd t261 x35_2) t265 _ A23.out).mono ?_); rintro e w32 ⟨rfl, hb⟩; replace HO_6 := aM (Kd.R_below (rQ HO_6.out) hb); replace HO_9 := aM (Kd.R_below (rQ HO_9.out) hb); replace HO_33 := aM (Kd.R_below (rQ HO_33.out) hb); replace HB := aM (below_step bQ hb); (try clear hb)) | (go_at_call 33; (with_reducible refine (impl_number.calls k2 t265 t266 _ A24.out).mono ?_); rintro e w' ⟨rfl, ⟨nd, rfl⟩⟩; (try first | exact ⟨rfl, _, World.drewN_drewN _ _ _⟩ | exact ⟨rfl, _, Eq.trans (World.drewN_drewN _ _ _) (congrArg (World.drewN _) (Nat.add_assoc _ _ _))⟩); obtain ⟨ad267, e267, hx267_0, p267, q267⟩ := aZ (Kd.at_int (Kd.R_reads' HO_6.out).2.2 t266); cases e267) | (go_at_call 33; (with_reducible refine (impl_number.calls k2 x0_2 t268 _ A27.out).mono ?_); rintro e w' ⟨rfl, ⟨nd, rfl⟩⟩; (try first | exact ⟨rfl, _, World.drewN_drewN _ _ _⟩ | exact ⟨rfl, _, Eq.trans (World.drewN_drewN _ _ _) (congrArg (World.drewN _) (Nat.add_assoc _ _ _))⟩); obtain ⟨ad269, e269, hx269_0, p269, q269⟩ := aZ (Kd.at_int (Kd.R_reads' HO_6.out).2.2 t268); cases e269) | ((with_reducible refine gate_builtin (b := .append) (xs := #[.tmp 54, .tmp 56]) rfl ?_); at_builtin; refine Kd.R_append (Kd.int .i64) (w0 := w) w.heap.size rfl (.tmp 54) (.tmp 56) 26 3 (.int .i64 0) 8 rfl Tryd.underlying26 info3 rfl (by decide) (by omega) u9 x9_2 (rd t261 x35_2) [.int .i64 (rd t261 x35_2)] (fun k_ => some k_ ≠ (.slice (some ad260) t250.length co15 : Value).ownBlock ∧ some k_ ≠ (.slice (some ad264) t261.length co19 : Value).ownBlock) (fun _ => False) rfl rfl ?aP (fun _ hk => hk.elim) ?aF ?aO ?aB ?aS ?aL ?_; (case aP => exact rfl); (case aB => exact bQ); (case aF => exact (fun k_ hk => ⟨Kd.fresh' (Kd.R_lt (rQ HO_6.out)) k_ hk, Kd.fresh' (Kd.R_lt (rQ HO_33.out)) k_ hk⟩)); (case aO => exact (rQ HO_9.out)); (case aS => exact (below_size bQ)); (case aL => have := LMc31.out; omega); intro v271 w33 ho hb hg hat; rw [← Ny270.out] at ho; replace HO_6 := aM (Kd.R_after (ok := (fun k_ => some k_ ≠ (.slice (some ad264) t261.length co19 : Value).ownBlock)) (by (with_reducible repeat (first | apply rA | apply rN | apply rD)); exact Kd.R_mono HO_6.out (fun _ hk => ⟨hk.2, hk.1⟩)) hg hat); replace HO_33 := aM (Kd.R_after (ok := (fun k_ => some k_ ≠ (.slice (some ad260) t250.length co15 : Value).ownBlock)) (rQ HO_33.out) hg hat); replace HB := aM (hb); have HO272 := aM (ho); clear ho hb hg hat)))
          go_roundg k2
          case measure => have := HK1.out; have := HK2.out; omega
          case rel => exact ⟨(t265), (y270), rfl, H', ⟨by have := HK1.out; have := HK2.out; omega⟩, ⟨Kd.R_mono HO_6.out (fun _ hk => hk.2)⟩, ⟨Kd.R_mono HO272.out (fun _ hk => hk.1)⟩, HB⟩
         ·have c30b0 : ((rd t250 t266) == (wrap64 ((rd t250 t268) - 1))) = false := beq_eq_false_iff_ne.mpr c30
          have c30q : ((rd t250 t266) == IntKind.i64.wrap ((rd t250 t268) - 1)) = false := by rw [i64_w]; exact c30b0
          have c30b1 : ((rd t250 t266) != (wrap64 ((rd t250 t268) - 1))) = true := bne_iff_ne.mpr c30
          have H' := aM H
          clear H; obtain ⟨ad264, e264, hx264_0, p264, q264⟩ := aZ (Kd.at_int (Kd.R_reads' HO_33.out).2.2 x35_2); cases e264
          go_wp2_with (first | (go_at_call 35; (with_reducible refine (impl_paired.calls x0_2 (rd t261 x35_2) t265 _ A23.out).mono ?_); rintro e w34 ⟨rfl, hb⟩; replace HO_6 := aM (Kd.R_below HO_6.out hb); replace HO_9 := aM (Kd.R_below HO_9.out hb); replace HO_33 := aM (Kd.R_below HO_33.out hb); replace HB := aM (below_step HB.out hb); (try clear hb)) | (go_at_call 33; (with_reducible refine (impl_number.calls k2 t265 t266 _ A24.out).mono ?_); rintro e w' ⟨rfl, ⟨nd, rfl⟩⟩; (try first | exact ⟨rfl, _, World.drewN_drewN _ _ _⟩ | exact ⟨rfl, _, Eq.trans (World.drewN_drewN _ _ _) (congrArg (World.drewN _) (Nat.add_assoc _ _ _))⟩); obtain ⟨ad267, e267, hx267_0, p267, q267⟩ := aZ (Kd.at_int (Kd.R_reads' HO_6.out).2.2 t266); cases e267) | (go_at_call 33; (with_reducible refine (impl_number.calls k2 x0_2 t268 _ A27.out).mono ?_); rintro e w' ⟨rfl, ⟨nd, rfl⟩⟩; (try first | exact ⟨rfl, _, World.drewN_drewN _ _ _⟩ | exact ⟨rfl, _, Eq.trans (World.drewN_drewN _ _ _) (congrArg (World.drewN _) (Nat.add_assoc _ _ _))⟩); obtain ⟨ad269, e269, hx269_0, p269, q269⟩ := aZ (Kd.at_int (Kd.R_reads' HO_6.out).2.2 t268); cases e269))
          repeat (go_quiet (first | (go_at_call 35; (with_reducible refine (impl_paired.calls x0_2 (rd t261 x35_2) t265 _ A23.out).mono ?_); rintro e w34 ⟨rfl, hb⟩; replace HO_6 := aM (Kd.R_below HO_6.out hb); replace HO_9 := aM (Kd.R_below HO_9.out hb); replace HO_33 := aM (Kd.R_below HO_33.out hb); replace HB := aM (below_step HB.out hb); (try clear hb)) | (go_at_call 33; (with_reducible refine (impl_number.calls k2 t265 t266 _ A24.out).mono ?_); rintro e w' ⟨rfl, ⟨nd, rfl⟩⟩; (try first | exact ⟨rfl, _, World.drewN_drewN _ _ _⟩ | exact ⟨rfl, _, Eq.trans (World.drewN_drewN _ _ _) (congrArg (World.drewN _) (Nat.add_assoc _ _ _))⟩); obtain ⟨ad267, e267, hx267_0, p267, q267⟩ := aZ (Kd.at_int (Kd.R_reads' HO_6.out).2.2 t266); cases e267) | (go_at_call 33; (with_reducible refine (impl_number.calls k2 x0_2 t268 _ A27.out).mono ?_); rintro e w' ⟨rfl, ⟨nd, rfl⟩⟩; (try first | exact ⟨rfl, _, World.drewN_drewN _ _ _⟩ | exact ⟨rfl, _, Eq.trans (World.drewN_drewN _ _ _) (congrArg (World.drewN _) (Nat.add_assoc _ _ _))⟩); obtain ⟨ad269, e269, hx269_0, p269, q269⟩ := aZ (Kd.at_int (Kd.R_reads' HO_6.out).2.2 t268); cases e269)); try go_wp2_with (first | (go_at_call 35; (with_reducible refine (impl_paired.calls x0_2 (rd t261 x35_2) t265 _ A23.out).mono ?_); rintro e w34 ⟨rfl, hb⟩; replace HO_6 := aM (Kd.R_below HO_6.out hb); replace HO_9 := aM (Kd.R_below HO_9.out hb); replace HO_33 := aM (Kd.R_below HO_33.out hb); replace HB := aM (below_step HB.out hb); (try clear hb)) | (go_at_call 33; (with_reducible refine (impl_number.calls k2 t265 t266 _ A24.out).mono ?_); rintro e w' ⟨rfl, ⟨nd, rfl⟩⟩; (try first | exact ⟨rfl, _, World.drewN_drewN _ _ _⟩ | exact ⟨rfl, _, Eq.trans (World.drewN_drewN _ _ _) (congrArg (World.drewN _) (Nat.add_assoc _ _ _))⟩); obtain ⟨ad267, e267, hx267_0, p267, q267⟩ := aZ (Kd.at_int (Kd.R_reads' HO_6.out).2.2 t266); cases e267) | (go_at_call 33; (with_reducible refine (impl_number.calls k2 x0_2 t268 _ A27.out).mono ?_); rintro e w' ⟨rfl, ⟨nd, rfl⟩⟩; (try first | exact ⟨rfl, _, World.drewN_drewN _ _ _⟩ | exact ⟨rfl, _, Eq.trans (World.drewN_drewN _ _ _) (congrArg (World.drewN _) (Nat.add_assoc _ _ _))⟩); obtain ⟨ad269, e269, hx269_0, p269, q269⟩ := aZ (Kd.at_int (Kd.R_reads' HO_6.out).2.2 t268); cases e269)))
          go_roundg k2
          case measure => have := HK1.out; have := HK2.out; omega
          case rel => exact ⟨(x0_2), (x9_2), (wrap64 (x35_2 + 1)), rfl, rfl, H', ⟨by have := HK1.out; have := HK2.out; omega⟩, ⟨rQ HO_6.out⟩, ⟨rQ HO_9.out⟩, ⟨rQ HO_33.out⟩, ⟨bQ⟩⟩
        ·have c20b0 := decide_eq_false c20
         clear c20
         have H' := aM H
         clear H
         go_wp2
         repeat (go_quiet (fail); try go_wp2)
         go_roundg k2
         case measure => have := HK1.out; have := HK2.out; omega
         case rel => exact ⟨(x0_2), (x9_2), rfl, H', ⟨by have := HK1.out; have := HK2.out; omega⟩, ⟨Kd.R_mono HO_6.out (fun _ hk => hk.1)⟩, ⟨Kd.R_mono HO_9.out (fun _ hk => hk.1)⟩, HB⟩
 ·replace c4 := Bool.eq_false_iff.mpr c4
  subst c4
  replace H := jF H
  simp only [Option.some.injEq, Prod.mk.injEq] at H
  obtain ⟨rfl, rfl⟩ := H
  go_enter Tryd.func6, Tryd.ntmps6
  go_wp2_with (first | (go_at_call 31; (with_reducible refine (impl_arePaired.calls a0 a1 false _ A3.out).mono ?_); rintro e w35 ⟨rfl, hb⟩; replace HB := aM (below_step HB.out hb); (try clear hb)))
  repeat (go_quiet (first | (go_at_call 31; (with_reducible refine (impl_arePaired.calls a0 a1 false _ A3.out).mono ?_); rintro e w35 ⟨rfl, hb⟩; replace HB := aM (below_step HB.out hb); (try clear hb))); try go_wp2_with (first | (go_at_call 31; (with_reducible refine (impl_arePaired.calls a0 a1 false _ A3.out).mono ?_); rintro e w35 ⟨rfl, hb⟩; replace HB := aM (below_step HB.out hb); (try clear hb))))
  go_ret2
  exact ⟨_, rfl, by first | exact Kd.R_nil _ _ _ _ _ | exact Kd.N_nil _ _ _ _ _ | exact Kd.V_nil _ _ _ _ _ | exact Kd.Q_nil _ _ _ _ _ | exact Kd.S_nil _ _ _ _ _, HB.out⟩

/-! ### spec_l1In: function 67 -/
def spec_l1In.f (a0 : Int) (a1 : Int) (a2 : Int) : Option (Bool) := if a0 ≥ a1 then (some (decide (a0 ≤ a2))) else (some false)
set_option maxHeartbeats 8000000 in
set_option maxRecDepth 100000 in
theorem spec_l1In.calls (a0 : Int) (a1 : Int) (a2 : Int) (r : Bool) (w : World) (h : spec_l1In.f a0 a1 a2 = some r) :
  Calls Tryd.prog 67 #[.int .i64 a0, .int .i64 a1, .int .i64 a2] w fun e w' => e = .returned (.bool r) ∧ Drawn0 w w' := by
 have H := h; clear h; unfold spec_l1In.f at H
 replace H := iE H; obtain ⟨c4b0, H⟩ | ⟨c4b0, H⟩ := H
 ·obtain rfl := Option.some.inj H
  go_enter Tryd.func67, Tryd.ntmps67
  go_wp2
  go_ret
  exact ⟨rfl, by repeat (first | exact Drawn0.refl _ | apply Drawn0.step)⟩
 ·obtain rfl := Option.some.inj H
  go_enter Tryd.func67, Tryd.ntmps67
  go_wp2
  go_ret
  exact ⟨rfl, by repeat (first | exact Drawn0.refl _ | apply Drawn0.step)⟩

/-! ### spec_riGood: function 64 -/
def spec_riGood.l0 : Nat → ByteArray → Int → Option (Bool)
 | 0, _, _ => none
 | k + 1, x0, x3 => if x3 < (x0.size : Int) then (if 0 ≤ x3 then (if (bt x0 x3) = 48 then (spec_riGood.l0 k x0 (wrap64 (x3 + 1))) else (if (bt x0 x3) = 49 then (spec_riGood.l0 k x0 (wrap64 (x3 + 1))) else (some false))) else (none)) else (some true)
def spec_riGood.f (k : Nat) (a0 : ByteArray) : Option (Bool) := (spec_l1In.f (a0.size : Int) 1 20).bind fun t273 => (if t273 = true then (spec_riGood.l0 k a0 0) else (some false))
theorem spec_riGood.mono_l : ∀ k, (∀ y0 y1, LeO (spec_riGood.l0 k y0 y1) (spec_riGood.l0 (k + 1) y0 y1))
 | 0 => fun _ _ r h => by simp [spec_riGood.l0] at h
 | k + 1 => by
  have ih0 := spec_riGood.mono_l k
  ·intro y0 y1
   unfold spec_riGood.l0
   with_reducible repeat' first | exact ih0 _ _ | exact LeO.refl _ | exact LeO.none _ | refine LeO.ite ?_ ?_ | refine LeO.bind ?_ (fun _ => ?_)
theorem spec_riGood.mono : ∀ a0 k, LeO (spec_riGood.f k a0) (spec_riGood.f (k + 1) a0) := by
 intro a0 k
 have ih0 := spec_riGood.mono_l k
 unfold spec_riGood.f
 with_reducible repeat' first | exact ih0 _ _ | exact LeO.refl _ | exact LeO.none _ | refine LeO.ite ?_ ?_ | refine LeO.bind ?_ (fun _ => ?_)
set_option maxHeartbeats 8000000 in
set_option maxRecDepth 100000 in
theorem spec_riGood.calls (k : Nat) (a0 : ByteArray) (r : Bool) (w : World) (h : spec_riGood.f k a0 = some r) :
  Calls Tryd.prog 64 #[.string a0] w fun e w' => e = .returned (.bool r) ∧ Drawn0 w w' := by
 have H := h; clear h; unfold spec_riGood.f at H
 replace H := jS H; obtain ⟨t273, A2, H⟩ := H
 by_cases c3 : t273 = true
 ·subst c3
  replace H := jT H
  have H' := aM H
  clear H
  go_enter Tryd.func64, Tryd.ntmps64
  go_wp2_with (first | ((with_reducible refine gC 67 rfl ?_); refine gL (some 6) Tryd.func67 #[.int .i64 (a0.size : Int), .int .i64 1, .int .i64 20] ?_; (with_reducible refine (spec_l1In.calls (a0.size : Int) 1 20 true _ A2.out).mono ?_); rintro e w' ⟨rfl, ⟨nd, rfl⟩⟩; refine ⟨_, rfl, ?_⟩))
  go_loopg [3] k (fun kq v3 w' => ∃ (x3_1 : Int), v3 = .int .i64 x3_1 ∧ Aside0 (spec_riGood.l0 kq a0 x3_1 = some r) ∧ Aside0 (kq ≤ k) ∧ Drawn0 w w')
  case atStart => exact ⟨(0), rfl, H', ⟨Nat.le_refl _⟩, by repeat (first | exact Drawn0.refl _ | apply Drawn0.step)⟩
  case round =>
   clear H'
   obtain ⟨x3_1, rfl, HA, HK1, ⟨m1, rfl⟩⟩ := hrel
   cases gk with
   | zero => exact absurd HA.out (by simp [spec_riGood.l0])
   | succ k1 =>
    have H := HA.out
    clear HA
    simp only [spec_riGood.l0] at H
    replace H := iO H; obtain ⟨c4, H⟩ | ⟨c4, H⟩ := H
    ·have c4b0 := decide_eq_true c4
     clear c4
     replace H := iC H; obtain ⟨c5, H⟩ := H
     have c5b0 := decide_eq_true c5
     clear c5
     replace H := iO H; obtain ⟨c7, H⟩ | ⟨c7, H⟩ := H
     ·have c7b0 : ((bt a0 x3_1) == 48) = true := beq_iff_eq.mpr c7
      have c7b1 : ((bt a0 x3_1) != 48) = false := bne_eq_false_iff_eq.mpr c7
      clear c7
      have H' := aM H
      clear H; have p6 : 0 ≤ (x3_1 : Int) := oD; have q6 : x3_1 < (a0.size : Int) := oD
      have hx6 := bt_at a0 x3_1
      replace p6 := eq_true p6; replace q6 := eq_true q6
      go_wp2
      go_roundg k1
      case measure => have := HK1.out; omega
      case rel => exact ⟨(wrap64 (x3_1 + 1)), rfl, H', ⟨by have := HK1.out; omega⟩, by repeat (first | exact Drawn0.refl _ | apply Drawn0.step)⟩
     ·have c7b0 : ((bt a0 x3_1) == 48) = false := beq_eq_false_iff_ne.mpr c7
      have c7b1 : ((bt a0 x3_1) != 48) = true := bne_iff_ne.mpr c7
      replace H := iO H; obtain ⟨c9, H⟩ | ⟨c9, H⟩ := H
      ·have c9b0 : ((bt a0 x3_1) == 49) = true := beq_iff_eq.mpr c9
       have c9b1 : ((bt a0 x3_1) != 49) = false := bne_eq_false_iff_eq.mpr c9
       clear c9
       have H' := aM H
       clear H; have p6 : 0 ≤ (x3_1 : Int) := oD; have q6 : x3_1 < (a0.size : Int) := oD
       have hx6 := bt_at a0 x3_1
       replace p6 := eq_true p6; replace q6 := eq_true q6; have p8 : 0 ≤ (x3_1 : Int) := oD; have q8 : x3_1 < (a0.size : Int) := oD
       have hx8 := bt_at a0 x3_1
       replace p8 := eq_true p8; replace q8 := eq_true q8
       go_wp2
       go_roundg k1
       case measure => have := HK1.out; omega
       case rel => exact ⟨(wrap64 (x3_1 + 1)), rfl, H', ⟨by have := HK1.out; omega⟩, by repeat (first | exact Drawn0.refl _ | apply Drawn0.step)⟩
      ·have c9b0 : ((bt a0 x3_1) == 49) = false := beq_eq_false_iff_ne.mpr c9
       have c9b1 : ((bt a0 x3_1) != 49) = true := bne_iff_ne.mpr c9
       obtain rfl := Option.some.inj H
       have p6 : 0 ≤ (x3_1 : Int) := oD; have q6 : x3_1 < (a0.size : Int) := oD
       have hx6 := bt_at a0 x3_1
       replace p6 := eq_true p6; replace q6 := eq_true q6; have p8 : 0 ≤ (x3_1 : Int) := oD; have q8 : x3_1 < (a0.size : Int) := oD
       have hx8 := bt_at a0 x3_1
       replace p8 := eq_true p8; replace q8 := eq_true q8
       go_wp2
       go_ret
       exact ⟨rfl, by repeat (first | exact Drawn0.refl _ | apply Drawn0.step)⟩
    ·have c4b0 := decide_eq_false c4
     clear c4
     obtain rfl := Option.some.inj H
     go_wp2
     go_ret
     exact ⟨rfl, by repeat (first | exact Drawn0.refl _ | apply Drawn0.step)⟩
 ·replace c3 := Bool.eq_false_iff.mpr c3
  subst c3
  replace H := jF H
  obtain rfl := Option.some.inj H
  go_enter Tryd.func64, Tryd.ntmps64
  go_wp2_with (first | ((with_reducible refine gC 67 rfl ?_); refine gL (some 6) Tryd.func67 #[.int .i64 (a0.size : Int), .int .i64 1, .int .i64 20] ?_; (with_reducible refine (spec_l1In.calls (a0.size : Int) 1 20 false _ A2.out).mono ?_); rintro e w' ⟨rfl, ⟨nd, rfl⟩⟩; refine ⟨_, rfl, ?_⟩))
  go_ret
  exact ⟨rfl, by repeat (first | exact Drawn0.refl _ | apply Drawn0.step)⟩

/-! ### spec_twGood: function 48 -/
def spec_twGood.f (k : Nat) (a0 : ByteArray) : Option (Bool) := (spec_riGood.f k a0).bind fun t274 => (if t274 = true then ((spec_l1In.f (a0.size : Int) 2 12).bind fun t275 => (some t275)) else (some false))
theorem spec_twGood.mono : ∀ a0 k, LeO (spec_twGood.f k a0) (spec_twGood.f (k + 1) a0) := by
 intro a0 k
 unfold spec_twGood.f
 with_reducible repeat' first | exact spec_riGood.mono _ _ | exact LeO.refl _ | exact LeO.none _ | refine LeO.ite ?_ ?_ | refine LeO.bind ?_ (fun _ => ?_)
set_option maxHeartbeats 8000000 in
set_option maxRecDepth 100000 in
theorem spec_twGood.calls (k : Nat) (a0 : ByteArray) (r : Bool) (w : World) (h : spec_twGood.f k a0 = some r) :
  Calls Tryd.prog 48 #[.string a0] w fun e w' => e = .returned (.bool r) ∧ Drawn0 w w' := by
 have H := h; clear h; unfold spec_twGood.f at H
 replace H := jS H; obtain ⟨t274, A2, H⟩ := H
 by_cases c3 : t274 = true
 ·subst c3
  replace H := jT H
  replace H := jS H; obtain ⟨t275, A4, H⟩ := H
  obtain rfl := Option.some.inj H
  go_enter Tryd.func48, Tryd.ntmps48
  go_wp2_with (first | ((with_reducible refine gC 64 rfl ?_); refine gL (some 4) Tryd.func64 #[.string a0] ?_; (with_reducible refine (spec_riGood.calls k a0 true _ A2.out).mono ?_); rintro e w' ⟨rfl, ⟨nd, rfl⟩⟩; refine ⟨_, rfl, ?_⟩) | (go_at_call 67; (with_reducible refine (spec_l1In.calls (a0.size : Int) 2 12 t275 _ A4.out).mono ?_); rintro e w' ⟨rfl, ⟨nd, rfl⟩⟩))
  go_ret
  exact ⟨rfl, by repeat (first | exact Drawn0.refl _ | apply Drawn0.step)⟩
 ·replace c3 := Bool.eq_false_iff.mpr c3
  subst c3
  replace H := jF H
  obtain rfl := Option.some.inj H
  go_enter Tryd.func48, Tryd.ntmps48
  go_wp2_with (first | ((with_reducible refine gC 64 rfl ?_); refine gL (some 4) Tryd.func64 #[.string a0] ?_; (with_reducible refine (spec_riGood.calls k a0 false _ A2.out).mono ?_); rintro e w' ⟨rfl, ⟨nd, rfl⟩⟩; refine ⟨_, rfl, ?_⟩))
  go_ret
  exact ⟨rfl, by repeat (first | exact Drawn0.refl _ | apply Drawn0.step)⟩

/-! ### spec_twTwo: function 36 -/
def spec_twTwo.f (k : Nat) (a0 : ByteArray) (a1 : ByteArray) : Option (Bool) := (spec_twGood.f k a0).bind fun t276 => (if t276 = true then ((spec_twGood.f k a1).bind fun t277 => (if t277 = true then (some ((a0.size : Int) == (a1.size : Int))) else (some false))) else (some false))
theorem spec_twTwo.mono : ∀ a0 a1 k, LeO (spec_twTwo.f k a0 a1) (spec_twTwo.f (k + 1) a0 a1) := by
 intro a0 a1 k
 unfold spec_twTwo.f
 with_reducible repeat' first | exact spec_twGood.mono _ _ | exact LeO.refl _ | exact LeO.none _ | refine LeO.ite ?_ ?_ | refine LeO.bind ?_ (fun _ => ?_)
set_option maxHeartbeats 8000000 in
set_option maxRecDepth 100000 in
theorem spec_twTwo.calls (k : Nat) (a0 : ByteArray) (a1 : ByteArray) (r : Bool) (w : World) (h : spec_twTwo.f k a0 a1 = some r) :
  Calls Tryd.prog 36 #[.string a0, .string a1] w fun e w' => e = .returned (.bool r) ∧ Drawn0 w w' := by
 have H := h; clear h; unfold spec_twTwo.f at H
 replace H := jS H; obtain ⟨t276, A3, H⟩ := H
 by_cases c4 : t276 = true
 ·subst c4
  replace H := jT H
  replace H := jS H; obtain ⟨t277, A5, H⟩ := H
  by_cases c6 : t277 = true
  ·subst c6
   replace H := jT H
   obtain rfl := Option.some.inj H
   go_enter Tryd.func36, Tryd.ntmps36
   go_wp2_with (first | ((with_reducible refine gC 48 rfl ?_); refine gL (some 6) Tryd.func48 #[.string a0] ?_; (with_reducible refine (spec_twGood.calls k a0 true _ A3.out).mono ?_); rintro e w' ⟨rfl, ⟨nd, rfl⟩⟩; refine ⟨_, rfl, ?_⟩) | (go_at_call 48; (with_reducible refine (spec_twGood.calls k a1 true _ A5.out).mono ?_); rintro e w' ⟨rfl, ⟨nd, rfl⟩⟩))
   go_ret
   exact ⟨rfl, by repeat (first | exact Drawn0.refl _ | apply Drawn0.step)⟩
  ·replace c6 := Bool.eq_false_iff.mpr c6
   subst c6
   replace H := jF H
   obtain rfl := Option.some.inj H
   go_enter Tryd.func36, Tryd.ntmps36
   go_wp2_with (first | ((with_reducible refine gC 48 rfl ?_); refine gL (some 6) Tryd.func48 #[.string a0] ?_; (with_reducible refine (spec_twGood.calls k a0 true _ A3.out).mono ?_); rintro e w' ⟨rfl, ⟨nd, rfl⟩⟩; refine ⟨_, rfl, ?_⟩) | (go_at_call 48; (with_reducible refine (spec_twGood.calls k a1 false _ A5.out).mono ?_); rintro e w' ⟨rfl, ⟨nd, rfl⟩⟩))
   go_ret
   exact ⟨rfl, by repeat (first | exact Drawn0.refl _ | apply Drawn0.step)⟩
 ·replace c4 := Bool.eq_false_iff.mpr c4
  subst c4
  replace H := jF H
  obtain rfl := Option.some.inj H
  go_enter Tryd.func36, Tryd.ntmps36
  go_wp2_with (first | ((with_reducible refine gC 48 rfl ?_); refine gL (some 6) Tryd.func48 #[.string a0] ?_; (with_reducible refine (spec_twGood.calls k a0 false _ A3.out).mono ?_); rintro e w' ⟨rfl, ⟨nd, rfl⟩⟩; refine ⟨_, rfl, ?_⟩))
  go_ret
  exact ⟨rfl, by repeat (first | exact Drawn0.refl _ | apply Drawn0.step)⟩

/-! ### spec_riNumber: function 39 -/
def spec_riNumber.l0 : Nat → ByteArray → Int → Int → Int → Option (Int)
 | 0, _, _, _, _ => none
 | k + 1, x0, x3, x4, x5 => if x5 ≥ 0 then (if 0 ≤ x5 then (if x5 < (x0.size : Int) then (if (bt x0 x5) = 49 then (spec_riNumber.l0 k x0 (wrap64 ((wrap64 (2 * x3)) + (wrap64 (1 - x4)))) (wrap64 (1 - x4)) (wrap64 (x5 - 1))) else (spec_riNumber.l0 k x0 (wrap64 ((wrap64 (2 * x3)) + x4)) x4 (wrap64 (x5 - 1)))) else (none)) else (none)) else (some x3)
def spec_riNumber.f (k : Nat) (a0 : ByteArray) : Option (Int) := spec_riNumber.l0 k a0 0 0 (wrap64 ((a0.size : Int) - 1))
theorem spec_riNumber.mono_l : ∀ k, (∀ y0 y1 y2 y3, LeO (spec_riNumber.l0 k y0 y1 y2 y3) (spec_riNumber.l0 (k + 1) y0 y1 y2 y3))
 | 0 => fun _ _ _ _ r h => by simp [spec_riNumber.l0] at h
 | k + 1 => by
  have ih0 := spec_riNumber.mono_l k
  ·intro y0 y1 y2 y3
   unfold spec_riNumber.l0
   with_reducible repeat' first | exact ih0 _ _ _ _ | exact LeO.refl _ | exact LeO.none _ | refine LeO.ite ?_ ?_ | refine LeO.bind ?_ (fun _ => ?_)
theorem spec_riNumber.mono : ∀ a0 k, LeO (spec_riNumber.f k a0) (spec_riNumber.f (k + 1) a0) := by
 intro a0 k
 have ih0 := spec_riNumber.mono_l k
 unfold spec_riNumber.f
 with_reducible repeat' first | exact ih0 _ _ _ _ | exact LeO.refl _ | exact LeO.none _ | refine LeO.ite ?_ ?_ | refine LeO.bind ?_ (fun _ => ?_)
set_option maxHeartbeats 8000000 in
set_option maxRecDepth 100000 in
theorem spec_riNumber.calls (k : Nat) (a0 : ByteArray) (r : Int) (w : World) (h : spec_riNumber.f k a0 = some r) :
  Calls Tryd.prog 39 #[.string a0] w fun e w' => e = .returned (.int .i64 r) ∧ Drawn0 w w' := by
 have H := h; clear h; unfold spec_riNumber.f at H
 have H' := aM H
 clear H
 go_enter Tryd.func39, Tryd.ntmps39
 go_wp2
 go_loopg [3, 4, 5] k (fun kq v3 v4 v5 w' => ∃ (x3_1 : Int) (x4_1 : Int) (x5_1 : Int), v3 = .int .i64 x3_1 ∧ v4 = .int .i64 x4_1 ∧ v5 = .int .i64 x5_1 ∧ Aside0 (spec_riNumber.l0 kq a0 x3_1 x4_1 x5_1 = some r) ∧ Aside0 (kq ≤ k) ∧ Drawn0 w w')
 case atStart => exact ⟨(0), (0), (wrap64 ((a0.size : Int) - 1)), rfl, rfl, rfl, H', ⟨Nat.le_refl _⟩, by repeat (first | exact Drawn0.refl _ | apply Drawn0.step)⟩
 case round =>
  clear H'
  obtain ⟨x3_1, x4_1, x5_1, rfl, rfl, rfl, HA, HK1, ⟨m1, rfl⟩⟩ := hrel
  cases gk with
  | zero => exact absurd HA.out (by simp [spec_riNumber.l0])
  | succ k1 =>
   have H := HA.out
   clear HA
   simp only [spec_riNumber.l0] at H
   replace H := iO H; obtain ⟨c2, H⟩ | ⟨c2, H⟩ := H
   ·have c2b0 := decide_eq_true c2
    clear c2
    replace H := iC H; obtain ⟨c3, H⟩ := H
    have c3b0 := decide_eq_true c3
    clear c3
    replace H := iC H; obtain ⟨c4, H⟩ := H
    have c4b0 := decide_eq_true c4
    clear c4
    replace H := iO H; obtain ⟨c6, H⟩ | ⟨c6, H⟩ := H
    ·have c6b0 : ((bt a0 x5_1) == 49) = true := beq_iff_eq.mpr c6
     have c6b1 : ((bt a0 x5_1) != 49) = false := bne_eq_false_iff_eq.mpr c6
     clear c6
     have H' := aM H
     clear H; have p5 : 0 ≤ (x5_1 : Int) := oD; have q5 : x5_1 < (a0.size : Int) := oD
     have hx5 := bt_at a0 x5_1
     replace p5 := eq_true p5; replace q5 := eq_true q5
     go_wp2
     go_roundg k1
     case measure => have := HK1.out; omega
     case rel => exact ⟨(wrap64 ((wrap64 (2 * x3_1)) + (wrap64 (1 - x4_1)))), (wrap64 (1 - x4_1)), (wrap64 (x5_1 - 1)), rfl, rfl, rfl, H', ⟨by have := HK1.out; omega⟩, by repeat (first | exact Drawn0.refl _ | apply Drawn0.step)⟩
    ·have c6b0 : ((bt a0 x5_1) == 49) = false := beq_eq_false_iff_ne.mpr c6
     have c6b1 : ((bt a0 x5_1) != 49) = true := bne_iff_ne.mpr c6
     have H' := aM H
     clear H; have p5 : 0 ≤ (x5_1 : Int) := oD; have q5 : x5_1 < (a0.size : Int) := oD
     have hx5 := bt_at a0 x5_1
     replace p5 := eq_true p5; replace q5 := eq_true q5
     go_wp2
     go_roundg k1
     case measure => have := HK1.out; omega
     case rel => exact ⟨(wrap64 ((wrap64 (2 * x3_1)) + x4_1)), (x4_1), (wrap64 (x5_1 - 1)), rfl, rfl, rfl, H', ⟨by have := HK1.out; omega⟩, by repeat (first | exact Drawn0.refl _ | apply Drawn0.step)⟩
   ·have c2b0 := decide_eq_false c2
    clear c2
    obtain rfl := Option.some.inj H
    go_wp2
    go_ret
    exact ⟨rfl, by repeat (first | exact Drawn0.refl _ | apply Drawn0.step)⟩

/-! ### spec_riOn: function 80 -/
def spec_riOn.l0 : Nat → ByteArray → Int → Int → Option (Int)
 | 0, _, _, _ => none
 | k + 1, x0, x3, x4 => if x4 < (x0.size : Int) then (if 0 ≤ x4 then (if (bt x0 x4) = 49 then (spec_riOn.l0 k x0 (wrap64 (x3 + 1)) (wrap64 (x4 + 1))) else (spec_riOn.l0 k x0 x3 (wrap64 (x4 + 1)))) else (none)) else (some x3)
def spec_riOn.f (k : Nat) (a0 : ByteArray) : Option (Int) := spec_riOn.l0 k a0 0 0
theorem spec_riOn.mono_l : ∀ k, (∀ y0 y1 y2, LeO (spec_riOn.l0 k y0 y1 y2) (spec_riOn.l0 (k + 1) y0 y1 y2))
 | 0 => fun _ _ _ r h => by simp [spec_riOn.l0] at h
 | k + 1 => by
  have ih0 := spec_riOn.mono_l k
  ·intro y0 y1 y2
   unfold spec_riOn.l0
   with_reducible repeat' first | exact ih0 _ _ _ | exact LeO.refl _ | exact LeO.none _ | refine LeO.ite ?_ ?_ | refine LeO.bind ?_ (fun _ => ?_)
theorem spec_riOn.mono : ∀ a0 k, LeO (spec_riOn.f k a0) (spec_riOn.f (k + 1) a0) := by
 intro a0 k
 have ih0 := spec_riOn.mono_l k
 unfold spec_riOn.f
 with_reducible repeat' first | exact ih0 _ _ _ | exact LeO.refl _ | exact LeO.none _ | refine LeO.ite ?_ ?_ | refine LeO.bind ?_ (fun _ => ?_)
set_option maxHeartbeats 8000000 in
set_option maxRecDepth 100000 in
theorem spec_riOn.calls (k : Nat) (a0 : ByteArray) (r : Int) (w : World) (h : spec_riOn.f k a0 = some r) :
  Calls Tryd.prog 80 #[.string a0] w fun e w' => e = .returned (.int .i64 r) ∧ Drawn0 w w' := by
 have H := h; clear h; unfold spec_riOn.f at H
 have H' := aM H
 clear H
 go_enter Tryd.func80, Tryd.ntmps80
 go_wp2
 go_loopg [3, 4] k (fun kq v3 v4 w' => ∃ (x3_1 : Int) (x4_1 : Int), v3 = .int .i64 x3_1 ∧ v4 = .int .i64 x4_1 ∧ Aside0 (spec_riOn.l0 kq a0 x3_1 x4_1 = some r) ∧ Aside0 (kq ≤ k) ∧ Drawn0 w w')
 case atStart => exact ⟨(0), (0), rfl, rfl, H', ⟨Nat.le_refl _⟩, by repeat (first | exact Drawn0.refl _ | apply Drawn0.step)⟩
 case round =>
  clear H'
  obtain ⟨x3_1, x4_1, rfl, rfl, HA, HK1, ⟨m1, rfl⟩⟩ := hrel
  cases gk with
  | zero => exact absurd HA.out (by simp [spec_riOn.l0])
  | succ k1 =>
   have H := HA.out
   clear HA
   simp only [spec_riOn.l0] at H
   replace H := iO H; obtain ⟨c2, H⟩ | ⟨c2, H⟩ := H
   ·have c2b0 := decide_eq_true c2
    clear c2
    replace H := iC H; obtain ⟨c3, H⟩ := H
    have c3b0 := decide_eq_true c3
    clear c3
    replace H := iO H; obtain ⟨c5, H⟩ | ⟨c5, H⟩ := H
    ·have c5b0 : ((bt a0 x4_1) == 49) = true := beq_iff_eq.mpr c5
     have c5b1 : ((bt a0 x4_1) != 49) = false := bne_eq_false_iff_eq.mpr c5
     clear c5
     have H' := aM H
     clear H; have p4 : 0 ≤ (x4_1 : Int) := oD; have q4 : x4_1 < (a0.size : Int) := oD
     have hx4 := bt_at a0 x4_1
     replace p4 := eq_true p4; replace q4 := eq_true q4
     go_wp2
     go_roundg k1
     case measure => have := HK1.out; omega
     case rel => exact ⟨(wrap64 (x3_1 + 1)), (wrap64 (x4_1 + 1)), rfl, rfl, H', ⟨by have := HK1.out; omega⟩, by repeat (first | exact Drawn0.refl _ | apply Drawn0.step)⟩
    ·have c5b0 : ((bt a0 x4_1) == 49) = false := beq_eq_false_iff_ne.mpr c5
     have c5b1 : ((bt a0 x4_1) != 49) = true := bne_iff_ne.mpr c5
     have H' := aM H
     clear H; have p4 : 0 ≤ (x4_1 : Int) := oD; have q4 : x4_1 < (a0.size : Int) := oD
     have hx4 := bt_at a0 x4_1
     replace p4 := eq_true p4; replace q4 := eq_true q4
     go_wp2
     go_roundg k1
     case measure => have := HK1.out; omega
     case rel => exact ⟨(x3_1), (wrap64 (x4_1 + 1)), rfl, rfl, H', ⟨by have := HK1.out; omega⟩, by repeat (first | exact Drawn0.refl _ | apply Drawn0.step)⟩
   ·have c2b0 := decide_eq_false c2
    clear c2
    obtain rfl := Option.some.inj H
    go_wp2
    go_ret
    exact ⟨rfl, by repeat (first | exact Drawn0.refl _ | apply Drawn0.step)⟩

end Go.Proofs.YtppbohghongfmaaDoor.PN
