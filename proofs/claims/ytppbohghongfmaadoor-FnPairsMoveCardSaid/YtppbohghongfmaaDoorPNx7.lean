-- written by a program of this session's (wip/tools), over the kit's print
import Derived.Test.YtppbohghongfmaaDoorPNx0
import Derived.Test.YtppbohghongfmaaDoorPNx2
import Derived.Test.YtppbohghongfmaaDoorPNx3
import Derived.Test.YtppbohghongfmaaDoorPNx4
import Derived.Test.YtppbohghongfmaaDoorPNx5
import Derived.Test.YtppbohghongfmaaDoorPNx6
-- squeezed
-- squeezed twice
namespace Go.Proofs.YtppbohghongfmaaDoor.PN
open Go.RowKit Go.Proofs.YtppbohghongfmaaDoorW.PrintWords Go.Proofs.YtppbohghongfmaaDoorW.PrintLast Go.Proofs.YtppbohghongfmaaDoorW.PrintMore
attribute [local go_sem] max2_int min2_int max_two min_two max_three min_three max_four min_four   -- for this text's walks alone
set_option linter.unusedVariables false
set_option linter.unusedSimpArgs false

/-! ### spec_twFirst: function 37 -/
mutual
def spec_twFirst.l0 : Nat → ByteArray → ByteArray → List Int → List Int → Option (List Int)
 | 0, _, _, _, _ => none
 | k + 1, x0, x1, x5, x7 => if x0.toList = x1.toList then (some x7) else ((spec_twMoves.f k x0).bind fun t343 => (spec_twFirst.l1 k x0 x1 x5 x7 t343 (t343.length : Int) 0))
def spec_twFirst.l1 : Nat → ByteArray → ByteArray → List Int → List Int → List Int → Int → Int → Option (List Int)
 | 0, _, _, _, _, _, _, _ => none
 | k + 1, x0, x1, x5, x7, x20, x21, x22 => if x22 < x21 then (if 0 ≤ x22 then (if x22 < (x20.length : Int) then ((spec_twMake.f x0 (rd x20 x22)).bind fun t347 => ((spec_riNumber.f k t347).bind fun t348 => (if 0 ≤ t348 then (if t348 < (x5.length : Int) then ((spec_riNumber.f k x0).bind fun t350 => (if 0 ≤ t350 then (if t350 < (x5.length : Int) then (if (rd x5 t348) = (wrap64 ((rd x5 t350) - 1)) then (if x7.length < 17592186044416 then (spec_twFirst.l0 k t347 x1 x5 (x7 ++ [rd x20 x22])) else (none)) else (spec_twFirst.l1 k x0 x1 x5 x7 x20 x21 (wrap64 (x22 + 1)))) else (none)) else (none))) else (none)) else (none)))) else (none)) else (none)) else (spec_twFirst.l0 k x0 x1 x5 x7)
end
def spec_twFirst.f (k : Nat) (a0 : ByteArray) (a1 : ByteArray) : Option (List Int) := (spec_twFar.f k a1).bind fun bt337 => (spec_twFirst.l0 k a0 a1 bt337.1 ([] : List Int))
theorem spec_twFirst.mono_l : ∀ k, (∀ y0 y1 y2 y3, LeO (spec_twFirst.l0 k y0 y1 y2 y3) (spec_twFirst.l0 (k + 1) y0 y1 y2 y3)) ∧ (∀ y0 y1 y2 y3 y4 y5 y6, LeO (spec_twFirst.l1 k y0 y1 y2 y3 y4 y5 y6) (spec_twFirst.l1 (k + 1) y0 y1 y2 y3 y4 y5 y6))
 | 0 => ⟨fun _ _ _ _ r h => by simp [spec_twFirst.l0] at h, fun _ _ _ _ _ _ _ r h => by simp [spec_twFirst.l1] at h⟩
 | k + 1 => by
  obtain ⟨ih0, ih1⟩ := spec_twFirst.mono_l k
  refine ⟨?_, ?_⟩
  ·intro y0 y1 y2 y3
   unfold spec_twFirst.l0
   with_reducible repeat' first | exact ih0 _ _ _ _ | exact ih1 _ _ _ _ _ _ _ | exact spec_riNumber.mono _ _ | exact spec_twFar.mono _ _ | exact spec_twMoves.mono _ _ | exact LeO.refl _ | exact LeO.none _ | refine LeO.ite ?_ ?_ | refine LeO.bind ?_ (fun _ => ?_)
  ·intro y0 y1 y2 y3 y4 y5 y6
   unfold spec_twFirst.l1
   with_reducible repeat' first | exact ih0 _ _ _ _ | exact ih1 _ _ _ _ _ _ _ | exact spec_riNumber.mono _ _ | exact spec_twFar.mono _ _ | exact spec_twMoves.mono _ _ | exact LeO.refl _ | exact LeO.none _ | refine LeO.ite ?_ ?_ | refine LeO.bind ?_ (fun _ => ?_)
theorem spec_twFirst.mono : ∀ a0 a1 k, LeO (spec_twFirst.f k a0 a1) (spec_twFirst.f (k + 1) a0 a1) := by
 intro a0 a1 k
 obtain ⟨ih0, ih1⟩ := spec_twFirst.mono_l k
 unfold spec_twFirst.f
 with_reducible repeat' first | exact ih0 _ _ _ _ | exact ih1 _ _ _ _ _ _ _ | exact spec_riNumber.mono _ _ | exact spec_twFar.mono _ _ | exact spec_twMoves.mono _ _ | exact LeO.refl _ | exact LeO.none _ | refine LeO.ite ?_ ?_ | refine LeO.bind ?_ (fun _ => ?_)
set_option maxHeartbeats 8000000 in
set_option maxRecDepth 100000 in
theorem spec_twFirst.calls (k : Nat) (a0 : ByteArray) (a1 : ByteArray) (r : List Int) (w : World) (h : spec_twFirst.f k a0 a1 = some r) :
  Calls Tryd.prog 37 #[.string a0, .string a1] w fun e w' => ∃ v0_ : Value, e = .returned (v0_) ∧ Kd.R (Kd.int .i64) 3 w' w.heap.size (fun _ => True) v0_ r ∧ Below w.heap.size w w' := by
 have HB := aM (Below.refl w.heap.size w)
 have H := h; clear h; unfold spec_twFirst.f at H
 replace H := jS H; obtain ⟨⟨t337, t338⟩, A3, H⟩ := H; dsimp only at H
 have H' := aM H
 clear H
 go_enter Tryd.func37, Tryd.ntmps37
 go_wp2_with (first | (go_at_call 38; (with_reducible refine (spec_twFar.calls k a1 t337 t338 _ A3.out).mono ?_); rintro e w4 ⟨v339, v341, rfl, ho0, ho1, hb⟩; have HO340 := aM (Kd.R_lower ho0 (below_size HB.out)); have HO342 := aM (Kd.R_lower ho1 (below_size HB.out)); replace HB := aM (below_step HB.out hb); (try clear hb); (try clear ho0); (try clear ho1)))
 repeat (go_quiet (first | (go_at_call 38; (with_reducible refine (spec_twFar.calls k a1 t337 t338 _ A3.out).mono ?_); rintro e w4 ⟨v339, v341, rfl, ho0, ho1, hb⟩; have HO340 := aM (Kd.R_lower ho0 (below_size HB.out)); have HO342 := aM (Kd.R_lower ho1 (below_size HB.out)); replace HB := aM (below_step HB.out hb); (try clear hb); (try clear ho0); (try clear ho1))); try go_wp2_with (first | (go_at_call 38; (with_reducible refine (spec_twFar.calls k a1 t337 t338 _ A3.out).mono ?_); rintro e w4 ⟨v339, v341, rfl, ho0, ho1, hb⟩; have HO340 := aM (Kd.R_lower ho0 (below_size HB.out)); have HO342 := aM (Kd.R_lower ho1 (below_size HB.out)); replace HB := aM (below_step HB.out hb); (try clear hb); (try clear ho0); (try clear ho1))))
 go_loopg [0, 7] k (fun kq v0 v7 w' => ∃ (x0_1 : ByteArray) (x7_1 : List Int), v0 = .string x0_1 ∧ Aside0 (spec_twFirst.l0 kq x0_1 a1 t337 x7_1 = some r) ∧ Aside0 (kq ≤ k) ∧ Aside0 (Kd.R (Kd.int .i64) 3 w' w.heap.size (fun k_ => some k_ ≠ (v7 : Value).ownBlock) v339 t337) ∧ Aside0 (Kd.R (Kd.int .i64) 3 w' w.heap.size (fun k_ => some k_ ≠ (v339 : Value).ownBlock) v7 x7_1) ∧ Aside0 (Below w.heap.size w w'))
 case atStart => exact ⟨(a0), (([] : List Int)), rfl, H', ⟨Nat.le_refl _⟩, ⟨Kd.R_mono HO340.out (fun _ hk => (by simp [Value.ownBlock]))⟩, ⟨by first | exact Kd.R_nil _ _ _ _ _ | exact Kd.N_nil _ _ _ _ _ | exact Kd.V_nil _ _ _ _ _ | exact Kd.Q_nil _ _ _ _ _ | exact Kd.S_nil _ _ _ _ _⟩, HB⟩
 case round =>
  clear H'
  obtain ⟨x0_1, x7_1, rfl, HA, HK1, HO_5, HO_7, HB⟩ := hrel
  cases gk with
  | zero => exact absurd HA.out (by simp [spec_twFirst.l0])
  | succ k1 =>
   have H := HA.out
   clear HA
   simp only [spec_twFirst.l0] at H
   replace H := iO H; obtain ⟨c5, H⟩ | ⟨c5, H⟩ := H
   ·have c5b0 : (x0_1.toList == a1.toList) = true := beq_iff_eq.mpr c5
    have c5b1 : (x0_1.toList != a1.toList) = false := bne_eq_false_iff_eq.mpr c5
    clear c5
    obtain rfl := Option.some.inj H
    go_wp2
    repeat (go_quiet (fail); try go_wp2)
    go_ret
    exact ⟨_, rfl, by (with_reducible repeat (first | apply rA | apply rN | apply rD)); exact Kd.R_mono HO_7.out (fun _ hk => trivial), HB.out⟩
   ·have c5b0 : (x0_1.toList == a1.toList) = false := beq_eq_false_iff_ne.mpr c5
    have c5b1 : (x0_1.toList != a1.toList) = true := bne_iff_ne.mpr c5
    replace H := jS H; obtain ⟨t343, A6, H⟩ := H
    have H' := aM H
    clear H
    go_wp2_with (first | (go_at_call 50; (with_reducible refine (spec_twMoves.calls k1 x0_1 t343 _ A6.out).mono ?_); rintro e w7 ⟨v344, rfl, ho0, hb⟩; have HO345 := aM (Kd.R_lower (Kd.R_new' (Kd.R_new' ho0 (Kd.R_lt HO_5.out)) (Kd.R_lt HO_7.out)) (below_size HB.out)); replace HO_5 := aM (Kd.R_elder' HO_5.out (Kd.R_base ho0) hb); replace HO_7 := aM (Kd.R_elder' HO_7.out (Kd.R_base ho0) hb); replace HB := aM (below_step HB.out hb); (try clear hb); (try clear ho0); obtain ⟨Ao8, co8, eo8⟩ := Kd.R_slice HO345.out; subst eo8))
    repeat (go_quiet (first | (go_at_call 50; (with_reducible refine (spec_twMoves.calls k1 x0_1 t343 _ A6.out).mono ?_); rintro e w7 ⟨v344, rfl, ho0, hb⟩; have HO345 := aM (Kd.R_lower (Kd.R_new' (Kd.R_new' ho0 (Kd.R_lt HO_5.out)) (Kd.R_lt HO_7.out)) (below_size HB.out)); replace HO_5 := aM (Kd.R_elder' HO_5.out (Kd.R_base ho0) hb); replace HO_7 := aM (Kd.R_elder' HO_7.out (Kd.R_base ho0) hb); replace HB := aM (below_step HB.out hb); (try clear hb); (try clear ho0); obtain ⟨Ao8, co8, eo8⟩ := Kd.R_slice HO345.out; subst eo8)); try go_wp2_with (first | (go_at_call 50; (with_reducible refine (spec_twMoves.calls k1 x0_1 t343 _ A6.out).mono ?_); rintro e w7 ⟨v344, rfl, ho0, hb⟩; have HO345 := aM (Kd.R_lower (Kd.R_new' (Kd.R_new' ho0 (Kd.R_lt HO_5.out)) (Kd.R_lt HO_7.out)) (below_size HB.out)); replace HO_5 := aM (Kd.R_elder' HO_5.out (Kd.R_base ho0) hb); replace HO_7 := aM (Kd.R_elder' HO_7.out (Kd.R_base ho0) hb); replace HB := aM (below_step HB.out hb); (try clear hb); (try clear ho0); obtain ⟨Ao8, co8, eo8⟩ := Kd.R_slice HO345.out; subst eo8)))
    go_loopg [0, 7, 22] k1 (fun kq v0 v7 v22 w' => ∃ (x0_2 : ByteArray) (x7_2 : List Int) (x22_2 : Int), v0 = .string x0_2 ∧ v22 = .int .i64 x22_2 ∧ Aside0 (spec_twFirst.l1 kq x0_2 a1 t337 x7_2 t343 (t343.length : Int) x22_2 = some r) ∧ Aside0 (kq ≤ k1) ∧ Aside0 (Kd.R (Kd.int .i64) 3 w' w.heap.size (fun k_ => some k_ ≠ (v7 : Value).ownBlock ∧ some k_ ≠ ((.slice Ao8 t343.length co8) : Value).ownBlock) v339 t337) ∧ Aside0 (Kd.R (Kd.int .i64) 3 w' w.heap.size (fun k_ => some k_ ≠ (v339 : Value).ownBlock ∧ some k_ ≠ ((.slice Ao8 t343.length co8) : Value).ownBlock) v7 x7_2) ∧ Aside0 (Kd.R (Kd.int .i64) 3 w' w.heap.size (fun k_ => some k_ ≠ (v339 : Value).ownBlock ∧ some k_ ≠ (v7 : Value).ownBlock) (.slice Ao8 t343.length co8) t343) ∧ Aside0 (Below w.heap.size w w'))
    case atStart => exact ⟨(x0_1), (x7_1), (0), rfl, rfl, H', ⟨Nat.le_refl _⟩, HO_5, HO_7, ⟨by (with_reducible repeat (first | apply rA | apply rN | apply rD)); exact Kd.R_mono HO345.out (fun _ hk => ⟨hk.1.2, hk.2⟩)⟩, HB⟩
    case round =>
     clear H'
     clear c5 c5b0 c5b1
     obtain ⟨x0_2, x7_2, x22_2, rfl, rfl, HA, HK2, HO_5, HO_7, HO_20, HB⟩ := hrel
     cases gk with
     | zero => exact absurd HA.out (by simp [spec_twFirst.l1])
     | succ k2 =>
      have H := HA.out
      clear HA
      simp only [spec_twFirst.l1] at H
      replace H := iO H; obtain ⟨c9, H⟩ | ⟨c9, H⟩ := H
      ·have c9b0 := decide_eq_true c9
       clear c9
       replace H := iC H; obtain ⟨c10, H⟩ := H
       have c10b0 := decide_eq_true c10
       clear c10
       replace H := iN H; obtain ⟨c11b0, H⟩ := H
       replace H := jS H; obtain ⟨t347, A12, H⟩ := H
       replace H := jS H; obtain ⟨t348, A13, H⟩ := H
       replace H := iC H; obtain ⟨c14, H⟩ := H
       have c14b0 := decide_eq_true c14
       clear c14
       replace H := iN H; obtain ⟨c15b0, H⟩ := H
       replace H := jS H; obtain ⟨t350, A16, H⟩ := H
       replace H := iC H; obtain ⟨c17, H⟩ := H
       have c17b0 := decide_eq_true c17
       clear c17
       replace H := iC H; obtain ⟨c18, H⟩ := H
       have c18b0 := decide_eq_true c18
       clear c18
       replace H := iO H; obtain ⟨c19, H⟩ | ⟨c19, H⟩ := H
       ·have c19b0 : ((rd t337 t348) == (wrap64 ((rd t337 t350) - 1))) = true := beq_iff_eq.mpr c19
        have c19q : ((rd t337 t348) == IntKind.i64.wrap ((rd t337 t350) - 1)) = true := by rw [i64_w]; exact c19b0
        have c19b1 : ((rd t337 t348) != (wrap64 ((rd t337 t350) - 1))) = false := bne_eq_false_iff_eq.mpr c19
        clear c19
        replace H := iC H; obtain ⟨c20, H⟩ := H
        have LMc20 := aM c20
        clear c20
        obtain ⟨y352, Ny352, h_⟩ := yG (α := List Int) (x7_2 ++ [rd t343 x22_2]); rw [← h_] at H; clear h_
        have H' := aM H
        clear H; obtain ⟨ad346, e346, hx346_0, p346, q346⟩ := aZ (Kd.at_int (Kd.R_reads' HO_20.out).2.2 x22_2); cases e346
        go_wp2_with (first | (go_at_call 51; (with_reducible refine (spec_twMake.calls x0_2 (rd t343 x22_2) t347 _ A12.out).mono ?_); rintro e w' ⟨rfl, ⟨nd, rfl⟩⟩; (try first | exact ⟨rfl, _, World.drewN_drewN _ _ _⟩ | exact ⟨rfl, _, Eq.trans (World.drewN_drewN _ _ _) (congrArg (World.drewN _) (Nat.add_assoc _ _ _))⟩)) | (go_at_call 39; (with_reducible refine (spec_riNumber.calls k2 t347 t348 _ A13.out).mono ?_); rintro e w' ⟨rfl, ⟨nd, rfl⟩⟩; (try first | exact ⟨rfl, _, World.drewN_drewN _ _ _⟩ | exact ⟨rfl, _, Eq.trans (World.drewN_drewN _ _ _) (congrArg (World.drewN _) (Nat.add_assoc _ _ _))⟩); obtain ⟨Ao21, co21, eo21⟩ := Kd.R_slice HO_5.out; subst eo21; obtain ⟨ad349, e349, hx349_0, p349, q349⟩ := aZ (Kd.at_int (Kd.R_reads' HO_5.out).2.2 t348); cases e349) | (go_at_call 39; (with_reducible refine (spec_riNumber.calls k2 x0_2 t350 _ A16.out).mono ?_); rintro e w' ⟨rfl, ⟨nd, rfl⟩⟩; (try first | exact ⟨rfl, _, World.drewN_drewN _ _ _⟩ | exact ⟨rfl, _, Eq.trans (World.drewN_drewN _ _ _) (congrArg (World.drewN _) (Nat.add_assoc _ _ _))⟩); obtain ⟨ad351, e351, hx351_0, p351, q351⟩ := aZ (Kd.at_int (Kd.R_reads' HO_5.out).2.2 t350); cases e351) | ((with_reducible refine gate_builtin (b := .append) (xs := #[.tmp 41, .tmp 43]) rfl ?_); at_builtin; refine Kd.R_append (Kd.int .i64) (w0 := w) w.heap.size rfl (.tmp 41) (.tmp 43) 26 3 (.int .i64 0) 8 rfl Tryd.underlying26 info3 rfl (by decide) (by omega) u7 x7_2 (rd t343 x22_2) [.int .i64 (rd t343 x22_2)] (fun k_ => some k_ ≠ (.slice (some ad349) t337.length co21 : Value).ownBlock ∧ some k_ ≠ (.slice (some ad346) t343.length co8 : Value).ownBlock) (fun _ => False) rfl rfl ?aP (fun _ hk => hk.elim) ?aF ?aO ?aB ?aS ?aL ?_; (case aP => exact rfl); (case aB => exact HB.out); (case aF => exact (fun k_ hk => ⟨Kd.fresh' (Kd.R_lt HO_5.out) k_ hk, Kd.fresh' (Kd.R_lt HO_20.out) k_ hk⟩)); (case aO => exact HO_7.out); (case aS => exact (below_size HB.out)); (case aL => have := LMc20.out; omega); intro v353 w22 ho hb hg hat; rw [← Ny352.out] at ho; replace HO_5 := aM (Kd.R_after (ok := (fun k_ => some k_ ≠ (.slice (some ad346) t343.length co8 : Value).ownBlock)) (Kd.R_mono HO_5.out (fun _ hk => ⟨hk.2, hk.1⟩)) hg hat); replace HO_20 := aM (Kd.R_after (ok := (fun k_ => some k_ ≠ (.slice (some ad349) t337.length co21 : Value).ownBlock)) HO_20.out hg hat); replace HB := aM (hb); have HO354 := aM (ho); clear ho hb hg hat))
        repeat (go_quiet (first | (go_at_call 51; (with_reducible refine (spec_twMake.calls x0_2 (rd t343 x22_2) t347 _ A12.out).mono ?_); rintro e w' ⟨rfl, ⟨nd, rfl⟩⟩; (try first | exact ⟨rfl, _, World.drewN_drewN _ _ _⟩ | exact ⟨rfl, _, Eq.trans (World.drewN_drewN _ _ _) (congrArg (World.drewN _) (Nat.add_assoc _ _ _))⟩)) | (go_at_call 39; (with_reducible refine (spec_riNumber.calls k2 t347 t348 _ A13.out).mono ?_); rintro e w' ⟨rfl, ⟨nd, rfl⟩⟩; (try first | exact ⟨rfl, _, World.drewN_drewN _ _ _⟩ | exact ⟨rfl, _, Eq.trans (World.drewN_drewN _ _ _) (congrArg (World.drewN _) (Nat.add_assoc _ _ _))⟩); obtain ⟨Ao21, co21, eo21⟩ := Kd.R_slice HO_5.out; subst eo21; obtain ⟨ad349, e349, hx349_0, p349, q349⟩ := aZ (Kd.at_int (Kd.R_reads' HO_5.out).2.2 t348); cases e349) | (go_at_call 39; (with_reducible refine (spec_riNumber.calls k2 x0_2 t350 _ A16.out).mono ?_); rintro e w' ⟨rfl, ⟨nd, rfl⟩⟩; (try first | exact ⟨rfl, _, World.drewN_drewN _ _ _⟩ | exact ⟨rfl, _, Eq.trans (World.drewN_drewN _ _ _) (congrArg (World.drewN _) (Nat.add_assoc _ _ _))⟩); obtain ⟨ad351, e351, hx351_0, p351, q351⟩ := aZ (Kd.at_int (Kd.R_reads' HO_5.out).2.2 t350); cases e351) | ((with_reducible refine gate_builtin (b := .append) (xs := #[.tmp 41, .tmp 43]) rfl ?_); at_builtin; refine Kd.R_append (Kd.int .i64) (w0 := w) w.heap.size rfl (.tmp 41) (.tmp 43) 26 3 (.int .i64 0) 8 rfl Tryd.underlying26 info3 rfl (by decide) (by omega) u7 x7_2 (rd t343 x22_2) [.int .i64 (rd t343 x22_2)] (fun k_ => some k_ ≠ (.slice (some ad349) t337.length co21 : Value).ownBlock ∧ some k_ ≠ (.slice (some ad346) t343.length co8 : Value).ownBlock) (fun _ => False) rfl rfl ?aP (fun _ hk => hk.elim) ?aF ?aO ?aB ?aS ?aL ?_; (case aP => exact rfl); (case aB => exact bQ); (case aF => exact (fun k_ hk => ⟨Kd.fresh' (Kd.R_lt (rQ HO_5.out)) k_ hk, Kd.fresh' (Kd.R_lt (rQ HO_20.out)) k_ hk⟩)); (case aO => exact (rQ HO_7.out)); (case aS => exact (below_size bQ)); (case aL => have := LMc20.out; omega); intro v353 w22 ho hb hg hat; rw [← Ny352.out] at ho; replace HO_5 := aM (Kd.R_after (ok := (fun k_ => some k_ ≠ (.slice (some ad346) t343.length co8 : Value).ownBlock)) (by (with_reducible repeat (first | apply rA | apply rN | apply rD)); exact Kd.R_mono HO_5.out (fun _ hk => ⟨hk.2, hk.1⟩)) hg hat); replace HO_20 := aM (Kd.R_after (ok := (fun k_ => some k_ ≠ (.slice (some ad349) t337.length co21 : Value).ownBlock)) (rQ HO_20.out) hg hat); replace HB := aM (hb); have HO354 := aM (ho); clear ho hb hg hat)); try go_wp2_with (first | (go_at_call 51; (with_reducible refine (spec_twMake.calls x0_2 (rd t343 x22_2) t347 _ A12.out).mono ?_); rintro e w' ⟨rfl, ⟨nd, rfl⟩⟩; (try first | exact ⟨rfl, _, World.drewN_drewN _ _ _⟩ | exact ⟨rfl, _, Eq.trans (World.drewN_drewN _ _ _) (congrArg (World.drewN _) (Nat.add_assoc _ _ _))⟩)) | (go_at_call 39; (with_reducible refine (spec_riNumber.calls k2 t347 t348 _ A13.out).mono ?_); rintro e w' ⟨rfl, ⟨nd, rfl⟩⟩; (try first | exact ⟨rfl, _, World.drewN_drewN _ _ _⟩ | exact ⟨rfl, _, Eq.trans (World.drewN_drewN _ _ _) (congrArg (World.drewN _) (Nat.add_assoc _ _ _))⟩); obtain ⟨Ao21, co21, eo21⟩ := Kd.R_slice HO_5.out; subst eo21; obtain ⟨ad349, e349, hx349_0, p349, q349⟩ := aZ (Kd.at_int (Kd.R_reads' HO_5.out).2.2 t348); cases e349) | (go_at_call 39; (with_reducible refine (spec_riNumber.calls k2 x0_2 t350 _ A16.out).mono ?_); rintro e w' ⟨rfl, ⟨nd, rfl⟩⟩; (try first | exact ⟨rfl, _, World.drewN_drewN _ _ _⟩ | exact ⟨rfl, _, Eq.trans (World.drewN_drewN _ _ _) (congrArg (World.drewN _) (Nat.add_assoc _ _ _))⟩); obtain ⟨ad351, e351, hx351_0, p351, q351⟩ := aZ (Kd.at_int (Kd.R_reads' HO_5.out).2.2 t350); cases e351) | ((with_reducible refine gate_builtin (b := .append) (xs := #[.tmp 41, .tmp 43]) rfl ?_); at_builtin; refine Kd.R_append (Kd.int .i64) (w0 := w) w.heap.size rfl (.tmp 41) (.tmp 43) 26 3 (.int .i64 0) 8 rfl Tryd.underlying26 info3 rfl (by decide) (by omega) u7 x7_2 (rd t343 x22_2) [.int .i64 (rd t343 x22_2)] (fun k_ => some k_ ≠ (.slice (some ad349) t337.length co21 : Value).ownBlock ∧ some k_ ≠ (.slice (some ad346) t343.length co8 : Value).ownBlock) (fun _ => False) rfl rfl ?aP (fun _ hk => hk.elim) ?aF ?aO ?aB ?aS ?aL ?_; (case aP => exact rfl); (case aB => exact bQ); (case aF => exact (fun k_ hk => ⟨Kd.fresh' (Kd.R_lt (rQ HO_5.out)) k_ hk, Kd.fresh' (Kd.R_lt (rQ HO_20.out)) k_ hk⟩)); (case aO => exact (rQ HO_7.out)); (case aS => exact (below_size bQ)); (case aL => have := LMc20.out; omega); intro v353 w22 ho hb hg hat; rw [← Ny352.out] at ho; replace HO_5 := aM (Kd.R_after (ok := (fun k_ => some k_ ≠ (.slice (some ad346) t343.length co8 : Value).ownBlock)) (by (with_reducible repeat (first | apply rA | apply rN | apply rD)); exact Kd.R_mono HO_5.out (fun _ hk => ⟨hk.2, hk.1⟩)) hg hat); replace HO_20 := aM (Kd.R_after (ok := (fun k_ => some k_ ≠ (.slice (some ad349) t337.length co21 : Value).ownBlock)) (rQ HO_20.out) hg hat); replace HB := aM (hb); have HO354 := aM (ho); clear ho hb hg hat)))
        go_roundg k2
        case measure => have := HK1.out; have := HK2.out; omega
        case rel => exact ⟨(t347), (y352), rfl, H', ⟨by have := HK1.out; have := HK2.out; omega⟩, ⟨Kd.R_mono HO_5.out (fun _ hk => hk.2)⟩, ⟨Kd.R_mono HO354.out (fun _ hk => hk.1)⟩, HB⟩
       ·have c19b0 : ((rd t337 t348) == (wrap64 ((rd t337 t350) - 1))) = false := beq_eq_false_iff_ne.mpr c19
        have c19q : ((rd t337 t348) == IntKind.i64.wrap ((rd t337 t350) - 1)) = false := by rw [i64_w]; exact c19b0
        have c19b1 : ((rd t337 t348) != (wrap64 ((rd t337 t350) - 1))) = true := bne_iff_ne.mpr c19
        have H' := aM H
        clear H; obtain ⟨ad346, e346, hx346_0, p346, q346⟩ := aZ (Kd.at_int (Kd.R_reads' HO_20.out).2.2 x22_2); cases e346
        go_wp2_with (first | (go_at_call 51; (with_reducible refine (spec_twMake.calls x0_2 (rd t343 x22_2) t347 _ A12.out).mono ?_); rintro e w' ⟨rfl, ⟨nd, rfl⟩⟩; (try first | exact ⟨rfl, _, World.drewN_drewN _ _ _⟩ | exact ⟨rfl, _, Eq.trans (World.drewN_drewN _ _ _) (congrArg (World.drewN _) (Nat.add_assoc _ _ _))⟩)) | (go_at_call 39; (with_reducible refine (spec_riNumber.calls k2 t347 t348 _ A13.out).mono ?_); rintro e w' ⟨rfl, ⟨nd, rfl⟩⟩; (try first | exact ⟨rfl, _, World.drewN_drewN _ _ _⟩ | exact ⟨rfl, _, Eq.trans (World.drewN_drewN _ _ _) (congrArg (World.drewN _) (Nat.add_assoc _ _ _))⟩); obtain ⟨Ao23, co23, eo23⟩ := Kd.R_slice HO_5.out; subst eo23; obtain ⟨ad349, e349, hx349_0, p349, q349⟩ := aZ (Kd.at_int (Kd.R_reads' HO_5.out).2.2 t348); cases e349) | (go_at_call 39; (with_reducible refine (spec_riNumber.calls k2 x0_2 t350 _ A16.out).mono ?_); rintro e w' ⟨rfl, ⟨nd, rfl⟩⟩; (try first | exact ⟨rfl, _, World.drewN_drewN _ _ _⟩ | exact ⟨rfl, _, Eq.trans (World.drewN_drewN _ _ _) (congrArg (World.drewN _) (Nat.add_assoc _ _ _))⟩); obtain ⟨ad351, e351, hx351_0, p351, q351⟩ := aZ (Kd.at_int (Kd.R_reads' HO_5.out).2.2 t350); cases e351))
        repeat (go_quiet (first | (go_at_call 51; (with_reducible refine (spec_twMake.calls x0_2 (rd t343 x22_2) t347 _ A12.out).mono ?_); rintro e w' ⟨rfl, ⟨nd, rfl⟩⟩; (try first | exact ⟨rfl, _, World.drewN_drewN _ _ _⟩ | exact ⟨rfl, _, Eq.trans (World.drewN_drewN _ _ _) (congrArg (World.drewN _) (Nat.add_assoc _ _ _))⟩)) | (go_at_call 39; (with_reducible refine (spec_riNumber.calls k2 t347 t348 _ A13.out).mono ?_); rintro e w' ⟨rfl, ⟨nd, rfl⟩⟩; (try first | exact ⟨rfl, _, World.drewN_drewN _ _ _⟩ | exact ⟨rfl, _, Eq.trans (World.drewN_drewN _ _ _) (congrArg (World.drewN _) (Nat.add_assoc _ _ _))⟩); obtain ⟨Ao23, co23, eo23⟩ := Kd.R_slice HO_5.out; subst eo23; obtain ⟨ad349, e349, hx349_0, p349, q349⟩ := aZ (Kd.at_int (Kd.R_reads' HO_5.out).2.2 t348); cases e349) | (go_at_call 39; (with_reducible refine (spec_riNumber.calls k2 x0_2 t350 _ A16.out).mono ?_); rintro e w' ⟨rfl, ⟨nd, rfl⟩⟩; (try first | exact ⟨rfl, _, World.drewN_drewN _ _ _⟩ | exact ⟨rfl, _, Eq.trans (World.drewN_drewN _ _ _) (congrArg (World.drewN _) (Nat.add_assoc _ _ _))⟩); obtain ⟨ad351, e351, hx351_0, p351, q351⟩ := aZ (Kd.at_int (Kd.R_reads' HO_5.out).2.2 t350); cases e351)); try go_wp2_with (first | (go_at_call 51; (with_reducible refine (spec_twMake.calls x0_2 (rd t343 x22_2) t347 _ A12.out).mono ?_); rintro e w' ⟨rfl, ⟨nd, rfl⟩⟩; (try first | exact ⟨rfl, _, World.drewN_drewN _ _ _⟩ | exact ⟨rfl, _, Eq.trans (World.drewN_drewN _ _ _) (congrArg (World.drewN _) (Nat.add_assoc _ _ _))⟩)) | (go_at_call 39; (with_reducible refine (spec_riNumber.calls k2 t347 t348 _ A13.out).mono ?_); rintro e w' ⟨rfl, ⟨nd, rfl⟩⟩; (try first | exact ⟨rfl, _, World.drewN_drewN _ _ _⟩ | exact ⟨rfl, _, Eq.trans (World.drewN_drewN _ _ _) (congrArg (World.drewN _) (Nat.add_assoc _ _ _))⟩); obtain ⟨Ao23, co23, eo23⟩ := Kd.R_slice HO_5.out; subst eo23; obtain ⟨ad349, e349, hx349_0, p349, q349⟩ := aZ (Kd.at_int (Kd.R_reads' HO_5.out).2.2 t348); cases e349) | (go_at_call 39; (with_reducible refine (spec_riNumber.calls k2 x0_2 t350 _ A16.out).mono ?_); rintro e w' ⟨rfl, ⟨nd, rfl⟩⟩; (try first | exact ⟨rfl, _, World.drewN_drewN _ _ _⟩ | exact ⟨rfl, _, Eq.trans (World.drewN_drewN _ _ _) (congrArg (World.drewN _) (Nat.add_assoc _ _ _))⟩); obtain ⟨ad351, e351, hx351_0, p351, q351⟩ := aZ (Kd.at_int (Kd.R_reads' HO_5.out).2.2 t350); cases e351)))
        go_roundg k2
        case measure => have := HK1.out; have := HK2.out; omega
        case rel => exact ⟨(x0_2), (x7_2), (wrap64 (x22_2 + 1)), rfl, rfl, H', ⟨by have := HK1.out; have := HK2.out; omega⟩, ⟨rQ HO_5.out⟩, ⟨rQ HO_7.out⟩, ⟨rQ HO_20.out⟩, ⟨bQ⟩⟩
      ·have c9b0 := decide_eq_false c9
       clear c9
       have H' := aM H
       clear H
       go_wp2
       repeat (go_quiet (fail); try go_wp2)
       go_roundg k2
       case measure => have := HK1.out; have := HK2.out; omega
       case rel => exact ⟨(x0_2), (x7_2), rfl, H', ⟨by have := HK1.out; have := HK2.out; omega⟩, ⟨Kd.R_mono HO_5.out (fun _ hk => hk.1)⟩, ⟨Kd.R_mono HO_7.out (fun _ hk => hk.1)⟩, HB⟩

/-! ### spec_FirstPairMoves: function 7 -/
def spec_FirstPairMoves.f (k : Nat) (a0 : ByteArray) (a1 : ByteArray) : Option (List Int × Bool) := (spec_twTwo.f k a0 a1).bind fun t355 => (if t355 = true then ((spec_twFirst.f k a0 a1).bind fun t356 => (some (t356, true))) else (some (([] : List Int), false)))
theorem spec_FirstPairMoves.mono : ∀ a0 a1 k, LeO (spec_FirstPairMoves.f k a0 a1) (spec_FirstPairMoves.f (k + 1) a0 a1) := by
 intro a0 a1 k
 unfold spec_FirstPairMoves.f
 with_reducible repeat' first | exact spec_twFirst.mono _ _ _ | exact spec_twTwo.mono _ _ _ | exact LeO.refl _ | exact LeO.none _ | refine LeO.ite ?_ ?_ | refine LeO.bind ?_ (fun _ => ?_)
set_option maxHeartbeats 8000000 in
set_option maxRecDepth 100000 in
theorem spec_FirstPairMoves.calls (k : Nat) (a0 : ByteArray) (a1 : ByteArray) (r1 : List Int) (r2 : Bool) (w : World) (h : spec_FirstPairMoves.f k a0 a1 = some (r1, r2)) :
  Calls Tryd.prog 7 #[.string a0, .string a1] w fun e w' => ∃ v0_ : Value, e = .returned (.tuple #[v0_, .bool r2]) ∧ Kd.R (Kd.int .i64) 3 w' w.heap.size (fun _ => True) v0_ r1 ∧ Below w.heap.size w w' := by
 have HB := aM (Below.refl w.heap.size w)
 have H := h; clear h; unfold spec_FirstPairMoves.f at H
 replace H := jS H; obtain ⟨t355, A3, H⟩ := H
 by_cases c4 : t355 = true
 ·subst c4
  replace H := jT H
  replace H := jS H; obtain ⟨t356, A5, H⟩ := H
  simp only [Option.some.injEq, Prod.mk.injEq] at H
  obtain ⟨rfl, rfl⟩ := H
  go_enter Tryd.func7, Tryd.ntmps7
  go_wp2_with (first | ((with_reducible refine gC 36 rfl ?_); refine gL (some 9) Tryd.func36 #[.string a0, .string a1] ?_; (with_reducible refine (spec_twTwo.calls k a0 a1 true _ A3.out).mono ?_); rintro e w' ⟨rfl, ⟨nd, rfl⟩⟩; refine ⟨_, rfl, ?_⟩) | ((with_reducible refine gC 37 rfl ?_); refine gL (some 13) Tryd.func37 #[.string a0, .string a1] ?_; (with_reducible refine (spec_twFirst.calls k a0 a1 t356 _ A5.out).mono ?_); rintro e w6 ⟨v357, rfl, ho0, hb⟩; refine ⟨_, rfl, ?_⟩; have HO358 := aM (Kd.R_lower ho0 (below_size bQ)); replace HB := aM (below_step bQ hb); (try clear hb); (try clear ho0)))
  go_ret2
  exact ⟨_, rfl, HO358.out, HB.out⟩
 ·replace c4 := Bool.eq_false_iff.mpr c4
  subst c4
  replace H := jF H
  simp only [Option.some.injEq, Prod.mk.injEq] at H
  obtain ⟨rfl, rfl⟩ := H
  go_enter Tryd.func7, Tryd.ntmps7
  go_wp2_with (first | ((with_reducible refine gC 36 rfl ?_); refine gL (some 9) Tryd.func36 #[.string a0, .string a1] ?_; (with_reducible refine (spec_twTwo.calls k a0 a1 false _ A3.out).mono ?_); rintro e w' ⟨rfl, ⟨nd, rfl⟩⟩; refine ⟨_, rfl, ?_⟩))
  go_ret2
  exact ⟨_, rfl, by first | exact Kd.R_nil _ _ _ _ _ | exact Kd.N_nil _ _ _ _ _ | exact Kd.V_nil _ _ _ _ _ | exact Kd.Q_nil _ _ _ _ _ | exact Kd.S_nil _ _ _ _ _, bQ⟩

/-! ### impl_FewestPairMoves: function 8 -/
def impl_FewestPairMoves.f (k : Nat) (a0 : ByteArray) (a1 : ByteArray) : Option (Int × Bool) := (impl_arePaired.f a0 a1).bind fun t359 => (if t359 = true then ((impl_search.f k a0).bind fun bt360 => ((impl_number.f k a1).bind fun t369 => (if 0 ≤ t369 then (if t369 < (bt360.1.length : Int) then (some (rd bt360.1 t369, true)) else (none)) else (none)))) else (some (0, false)))
theorem impl_FewestPairMoves.mono : ∀ a0 a1 k, LeO (impl_FewestPairMoves.f k a0 a1) (impl_FewestPairMoves.f (k + 1) a0 a1) := by
 intro a0 a1 k
 unfold impl_FewestPairMoves.f
 with_reducible repeat' first | exact impl_number.mono _ _ | exact impl_search.mono _ _ | exact LeO.refl _ | exact LeO.none _ | refine LeO.ite ?_ ?_ | refine LeO.bind ?_ (fun _ => ?_)
set_option maxHeartbeats 8000000 in
set_option maxRecDepth 100000 in
theorem impl_FewestPairMoves.calls (k : Nat) (a0 : ByteArray) (a1 : ByteArray) (r1 : Int) (r2 : Bool) (w : World) (h : impl_FewestPairMoves.f k a0 a1 = some (r1, r2)) :
  Calls Tryd.prog 8 #[.string a0, .string a1] w fun e w' => e = .returned (.tuple #[.int .i64 r1, .bool r2]) ∧ Below w.heap.size w w' := by
 have HB := aM (Below.refl w.heap.size w)
 have H := h; clear h; unfold impl_FewestPairMoves.f at H
 replace H := jS H; obtain ⟨t359, A3, H⟩ := H
 by_cases c4 : t359 = true
 ·subst c4
  replace H := jT H
  replace H := jS H; obtain ⟨⟨t360, t361, t362⟩, A5, H⟩ := H; dsimp only at H
  replace H := jS H; obtain ⟨t369, A6, H⟩ := H
  replace H := iC H; obtain ⟨c7, H⟩ := H
  have c7b0 := decide_eq_true c7
  clear c7
  replace H := iN H; obtain ⟨c8b0, H⟩ := H
  simp only [Option.some.injEq, Prod.mk.injEq] at H
  obtain ⟨rfl, rfl⟩ := H
  go_enter Tryd.func8, Tryd.ntmps8
  go_wp2_with (first | ((with_reducible refine gC 31 rfl ?_); refine gL (some 11) Tryd.func31 #[.string a0, .string a1] ?_; (with_reducible refine (impl_arePaired.calls a0 a1 true _ A3.out).mono ?_); rintro e w9 ⟨rfl, hb⟩; refine ⟨_, rfl, ?_⟩; replace HB := aM (below_step HB.out hb); (try clear hb)) | ((with_reducible refine gC 32 rfl ?_); refine gL (some 15) Tryd.func32 #[.string a0] ?_; (with_reducible refine (impl_search.calls k a0 t360 t361 t362 _ A5.out).mono ?_); rintro e w10 ⟨v363, v365, v367, rfl, ho0, ho1, ho2, hb⟩; refine ⟨_, rfl, ?_⟩; have HO364 := aM (Kd.R_lower ho0 (below_size HB.out)); have HO366 := aM (Kd.R_lower ho1 (below_size HB.out)); have HO368 := aM (Kd.R_lower ho2 (below_size HB.out)); replace HB := aM (below_step HB.out hb); (try clear hb); (try clear ho0); (try clear ho1); (try clear ho2)) | ((with_reducible refine gC 33 rfl ?_); refine gL (some 21) Tryd.func33 #[.string a1] ?_; (with_reducible refine (impl_number.calls k a1 t369 _ A6.out).mono ?_); rintro e w' ⟨rfl, ⟨nd, rfl⟩⟩; refine ⟨_, rfl, ?_⟩; obtain ⟨Ao11, co11, eo11⟩ := Kd.R_slice HO364.out; subst eo11; obtain ⟨ad370, e370, hx370_0, p370, q370⟩ := aZ (Kd.at_int (Kd.R_reads' HO364.out).2.2 t369); cases e370))
  go_ret2
  exact ⟨rfl, bQ⟩
 ·replace c4 := Bool.eq_false_iff.mpr c4
  subst c4
  replace H := jF H
  simp only [Option.some.injEq, Prod.mk.injEq] at H
  obtain ⟨rfl, rfl⟩ := H
  go_enter Tryd.func8, Tryd.ntmps8
  go_wp2_with (first | ((with_reducible refine gC 31 rfl ?_); refine gL (some 11) Tryd.func31 #[.string a0, .string a1] ?_; (with_reducible refine (impl_arePaired.calls a0 a1 false _ A3.out).mono ?_); rintro e w12 ⟨rfl, hb⟩; refine ⟨_, rfl, ?_⟩; replace HB := aM (below_step HB.out hb); (try clear hb)))
  go_ret2
  exact ⟨rfl, HB.out⟩

/-! ### spec_FewestPairMoves: function 9 -/
def spec_FewestPairMoves.f (k : Nat) (a0 : ByteArray) (a1 : ByteArray) : Option (Int × Bool) := (spec_twTwo.f k a0 a1).bind fun t371 => (if t371 = true then ((spec_twFar.f k a1).bind fun bt372 => ((spec_riNumber.f k a0).bind fun t378 => (if 0 ≤ t378 then (if t378 < (bt372.1.length : Int) then (some (rd bt372.1 t378, true)) else (none)) else (none)))) else (some (0, false)))
theorem spec_FewestPairMoves.mono : ∀ a0 a1 k, LeO (spec_FewestPairMoves.f k a0 a1) (spec_FewestPairMoves.f (k + 1) a0 a1) := by
 intro a0 a1 k
 unfold spec_FewestPairMoves.f
 with_reducible repeat' first | exact spec_riNumber.mono _ _ | exact spec_twFar.mono _ _ | exact spec_twTwo.mono _ _ _ | exact LeO.refl _ | exact LeO.none _ | refine LeO.ite ?_ ?_ | refine LeO.bind ?_ (fun _ => ?_)
set_option maxHeartbeats 8000000 in
set_option maxRecDepth 100000 in
theorem spec_FewestPairMoves.calls (k : Nat) (a0 : ByteArray) (a1 : ByteArray) (r1 : Int) (r2 : Bool) (w : World) (h : spec_FewestPairMoves.f k a0 a1 = some (r1, r2)) :
  Calls Tryd.prog 9 #[.string a0, .string a1] w fun e w' => e = .returned (.tuple #[.int .i64 r1, .bool r2]) ∧ Below w.heap.size w w' := by
 have HB := aM (Below.refl w.heap.size w)
 have H := h; clear h; unfold spec_FewestPairMoves.f at H
 replace H := jS H; obtain ⟨t371, A3, H⟩ := H
 by_cases c4 : t371 = true
 ·subst c4
  replace H := jT H
  replace H := jS H; obtain ⟨⟨t372, t373⟩, A5, H⟩ := H; dsimp only at H
  replace H := jS H; obtain ⟨t378, A6, H⟩ := H
  replace H := iC H; obtain ⟨c7, H⟩ := H
  have c7b0 := decide_eq_true c7
  clear c7
  replace H := iN H; obtain ⟨c8b0, H⟩ := H
  simp only [Option.some.injEq, Prod.mk.injEq] at H
  obtain ⟨rfl, rfl⟩ := H
  go_enter Tryd.func9, Tryd.ntmps9
  go_wp2_with (first | ((with_reducible refine gC 36 rfl ?_); refine gL (some 10) Tryd.func36 #[.string a0, .string a1] ?_; (with_reducible refine (spec_twTwo.calls k a0 a1 true _ A3.out).mono ?_); rintro e w' ⟨rfl, ⟨nd, rfl⟩⟩; refine ⟨_, rfl, ?_⟩) | ((with_reducible refine gC 38 rfl ?_); refine gL (some 14) Tryd.func38 #[.string a1] ?_; (with_reducible refine (spec_twFar.calls k a1 t372 t373 _ A5.out).mono ?_); rintro e w9 ⟨v374, v376, rfl, ho0, ho1, hb⟩; refine ⟨_, rfl, ?_⟩; have HO375 := aM (Kd.R_lower ho0 (below_size bQ)); have HO377 := aM (Kd.R_lower ho1 (below_size bQ)); replace HB := aM (below_step bQ hb); (try clear hb); (try clear ho0); (try clear ho1)) | ((with_reducible refine gC 39 rfl ?_); refine gL (some 19) Tryd.func39 #[.string a0] ?_; (with_reducible refine (spec_riNumber.calls k a0 t378 _ A6.out).mono ?_); rintro e w' ⟨rfl, ⟨nd, rfl⟩⟩; refine ⟨_, rfl, ?_⟩; obtain ⟨Ao10, co10, eo10⟩ := Kd.R_slice HO375.out; subst eo10; obtain ⟨ad379, e379, hx379_0, p379, q379⟩ := aZ (Kd.at_int (Kd.R_reads' HO375.out).2.2 t378); cases e379))
  go_ret2
  exact ⟨rfl, bQ⟩
 ·replace c4 := Bool.eq_false_iff.mpr c4
  subst c4
  replace H := jF H
  simp only [Option.some.injEq, Prod.mk.injEq] at H
  obtain ⟨rfl, rfl⟩ := H
  go_enter Tryd.func9, Tryd.ntmps9
  go_wp2_with (first | ((with_reducible refine gC 36 rfl ?_); refine gL (some 10) Tryd.func36 #[.string a0, .string a1] ?_; (with_reducible refine (spec_twTwo.calls k a0 a1 false _ A3.out).mono ?_); rintro e w' ⟨rfl, ⟨nd, rfl⟩⟩; refine ⟨_, rfl, ?_⟩))
  go_ret2
  exact ⟨rfl, bQ⟩

/-! ### impl_CountPairWays: function 10 -/
def impl_CountPairWays.f (k : Nat) (a0 : ByteArray) (a1 : ByteArray) : Option (Int × Bool) := (impl_arePaired.f a0 a1).bind fun t380 => (if t380 = true then ((impl_search.f k a0).bind fun bt381 => ((impl_number.f k a1).bind fun t390 => (if 0 ≤ t390 then (if t390 < (bt381.2.1.length : Int) then (some (rd bt381.2.1 t390, true)) else (none)) else (none)))) else (some (0, false)))
theorem impl_CountPairWays.mono : ∀ a0 a1 k, LeO (impl_CountPairWays.f k a0 a1) (impl_CountPairWays.f (k + 1) a0 a1) := by
 intro a0 a1 k
 unfold impl_CountPairWays.f
 with_reducible repeat' first | exact impl_number.mono _ _ | exact impl_search.mono _ _ | exact LeO.refl _ | exact LeO.none _ | refine LeO.ite ?_ ?_ | refine LeO.bind ?_ (fun _ => ?_)
set_option maxHeartbeats 8000000 in
set_option maxRecDepth 100000 in
theorem impl_CountPairWays.calls (k : Nat) (a0 : ByteArray) (a1 : ByteArray) (r1 : Int) (r2 : Bool) (w : World) (h : impl_CountPairWays.f k a0 a1 = some (r1, r2)) :
  Calls Tryd.prog 10 #[.string a0, .string a1] w fun e w' => e = .returned (.tuple #[.int .i64 r1, .bool r2]) ∧ Below w.heap.size w w' := by
 have HB := aM (Below.refl w.heap.size w)
 have H := h; clear h; unfold impl_CountPairWays.f at H
 replace H := jS H; obtain ⟨t380, A3, H⟩ := H
 by_cases c4 : t380 = true
 ·subst c4
  replace H := jT H
  replace H := jS H; obtain ⟨⟨t381, t382, t383⟩, A5, H⟩ := H; dsimp only at H
  replace H := jS H; obtain ⟨t390, A6, H⟩ := H
  replace H := iC H; obtain ⟨c7, H⟩ := H
  have c7b0 := decide_eq_true c7
  clear c7
  replace H := iN H; obtain ⟨c8b0, H⟩ := H
  simp only [Option.some.injEq, Prod.mk.injEq] at H
  obtain ⟨rfl, rfl⟩ := H
  go_enter Tryd.func10, Tryd.ntmps10
  go_wp2_with (first | ((with_reducible refine gC 31 rfl ?_); refine gL (some 11) Tryd.func31 #[.string a0, .string a1] ?_; (with_reducible refine (impl_arePaired.calls a0 a1 true _ A3.out).mono ?_); rintro e w9 ⟨rfl, hb⟩; refine ⟨_, rfl, ?_⟩; replace HB := aM (below_step HB.out hb); (try clear hb)) | ((with_reducible refine gC 32 rfl ?_); refine gL (some 15) Tryd.func32 #[.string a0] ?_; (with_reducible refine (impl_search.calls k a0 t381 t382 t383 _ A5.out).mono ?_); rintro e w10 ⟨v384, v386, v388, rfl, ho0, ho1, ho2, hb⟩; refine ⟨_, rfl, ?_⟩; have HO385 := aM (Kd.R_lower ho0 (below_size HB.out)); have HO387 := aM (Kd.R_lower ho1 (below_size HB.out)); have HO389 := aM (Kd.R_lower ho2 (below_size HB.out)); replace HB := aM (below_step HB.out hb); (try clear hb); (try clear ho0); (try clear ho1); (try clear ho2)) | ((with_reducible refine gC 33 rfl ?_); refine gL (some 21) Tryd.func33 #[.string a1] ?_; (with_reducible refine (impl_number.calls k a1 t390 _ A6.out).mono ?_); rintro e w' ⟨rfl, ⟨nd, rfl⟩⟩; refine ⟨_, rfl, ?_⟩; obtain ⟨Ao11, co11, eo11⟩ := Kd.R_slice HO387.out; subst eo11; obtain ⟨ad391, e391, hx391_0, p391, q391⟩ := aZ (Kd.at_int (Kd.R_reads' HO387.out).2.2 t390); cases e391))
  go_ret2
  exact ⟨rfl, bQ⟩
 ·replace c4 := Bool.eq_false_iff.mpr c4
  subst c4
  replace H := jF H
  simp only [Option.some.injEq, Prod.mk.injEq] at H
  obtain ⟨rfl, rfl⟩ := H
  go_enter Tryd.func10, Tryd.ntmps10
  go_wp2_with (first | ((with_reducible refine gC 31 rfl ?_); refine gL (some 11) Tryd.func31 #[.string a0, .string a1] ?_; (with_reducible refine (impl_arePaired.calls a0 a1 false _ A3.out).mono ?_); rintro e w12 ⟨rfl, hb⟩; refine ⟨_, rfl, ?_⟩; replace HB := aM (below_step HB.out hb); (try clear hb)))
  go_ret2
  exact ⟨rfl, HB.out⟩

/-! ### spec_CountPairWays: function 11 -/
def spec_CountPairWays.f (k : Nat) (a0 : ByteArray) (a1 : ByteArray) : Option (Int × Bool) := (spec_twTwo.f k a0 a1).bind fun t392 => (if t392 = true then ((spec_twFar.f k a1).bind fun bt393 => ((spec_riNumber.f k a0).bind fun t399 => (if 0 ≤ t399 then (if t399 < (bt393.2.length : Int) then (some (rd bt393.2 t399, true)) else (none)) else (none)))) else (some (0, false)))
theorem spec_CountPairWays.mono : ∀ a0 a1 k, LeO (spec_CountPairWays.f k a0 a1) (spec_CountPairWays.f (k + 1) a0 a1) := by
 intro a0 a1 k
 unfold spec_CountPairWays.f
 with_reducible repeat' first | exact spec_riNumber.mono _ _ | exact spec_twFar.mono _ _ | exact spec_twTwo.mono _ _ _ | exact LeO.refl _ | exact LeO.none _ | refine LeO.ite ?_ ?_ | refine LeO.bind ?_ (fun _ => ?_)
set_option maxHeartbeats 8000000 in
set_option maxRecDepth 100000 in
theorem spec_CountPairWays.calls (k : Nat) (a0 : ByteArray) (a1 : ByteArray) (r1 : Int) (r2 : Bool) (w : World) (h : spec_CountPairWays.f k a0 a1 = some (r1, r2)) :
  Calls Tryd.prog 11 #[.string a0, .string a1] w fun e w' => e = .returned (.tuple #[.int .i64 r1, .bool r2]) ∧ Below w.heap.size w w' := by
 have HB := aM (Below.refl w.heap.size w)
 have H := h; clear h; unfold spec_CountPairWays.f at H
 replace H := jS H; obtain ⟨t392, A3, H⟩ := H
 by_cases c4 : t392 = true
 ·subst c4
  replace H := jT H
  replace H := jS H; obtain ⟨⟨t393, t394⟩, A5, H⟩ := H; dsimp only at H
  replace H := jS H; obtain ⟨t399, A6, H⟩ := H
  replace H := iC H; obtain ⟨c7, H⟩ := H
  have c7b0 := decide_eq_true c7
  clear c7
  replace H := iN H; obtain ⟨c8b0, H⟩ := H
  simp only [Option.some.injEq, Prod.mk.injEq] at H
  obtain ⟨rfl, rfl⟩ := H
  go_enter Tryd.func11, Tryd.ntmps11
  go_wp2_with (first | ((with_reducible refine gC 36 rfl ?_); refine gL (some 10) Tryd.func36 #[.string a0, .string a1] ?_; (with_reducible refine (spec_twTwo.calls k a0 a1 true _ A3.out).mono ?_); rintro e w' ⟨rfl, ⟨nd, rfl⟩⟩; refine ⟨_, rfl, ?_⟩) | ((with_reducible refine gC 38 rfl ?_); refine gL (some 14) Tryd.func38 #[.string a1] ?_; (with_reducible refine (spec_twFar.calls k a1 t393 t394 _ A5.out).mono ?_); rintro e w9 ⟨v395, v397, rfl, ho0, ho1, hb⟩; refine ⟨_, rfl, ?_⟩; have HO396 := aM (Kd.R_lower ho0 (below_size bQ)); have HO398 := aM (Kd.R_lower ho1 (below_size bQ)); replace HB := aM (below_step bQ hb); (try clear hb); (try clear ho0); (try clear ho1)) | ((with_reducible refine gC 39 rfl ?_); refine gL (some 19) Tryd.func39 #[.string a0] ?_; (with_reducible refine (spec_riNumber.calls k a0 t399 _ A6.out).mono ?_); rintro e w' ⟨rfl, ⟨nd, rfl⟩⟩; refine ⟨_, rfl, ?_⟩; obtain ⟨Ao10, co10, eo10⟩ := Kd.R_slice HO398.out; subst eo10; obtain ⟨ad400, e400, hx400_0, p400, q400⟩ := aZ (Kd.at_int (Kd.R_reads' HO398.out).2.2 t399); cases e400))
  go_ret2
  exact ⟨rfl, bQ⟩
 ·replace c4 := Bool.eq_false_iff.mpr c4
  subst c4
  replace H := jF H
  simp only [Option.some.injEq, Prod.mk.injEq] at H
  obtain ⟨rfl, rfl⟩ := H
  go_enter Tryd.func11, Tryd.ntmps11
  go_wp2_with (first | ((with_reducible refine gC 36 rfl ?_); refine gL (some 10) Tryd.func36 #[.string a0, .string a1] ?_; (with_reducible refine (spec_twTwo.calls k a0 a1 false _ A3.out).mono ?_); rintro e w' ⟨rfl, ⟨nd, rfl⟩⟩; refine ⟨_, rfl, ?_⟩))
  go_ret2
  exact ⟨rfl, bQ⟩

/-! ### impl_apart: function 40 -/
def impl_apart.f (a0 : Int) (a1 : Int) : Option (Int) := some (mx (wrap64 (a0 - a1)) (wrap64 (a1 - a0)))
set_option maxHeartbeats 8000000 in
set_option maxRecDepth 100000 in
theorem impl_apart.calls (a0 : Int) (a1 : Int) (r : Int) (w : World) (h : impl_apart.f a0 a1 = some r) :
  Calls Tryd.prog 40 #[.int .i64 a0, .int .i64 a1] w fun e w' => e = .returned (.int .i64 r) ∧ Below w.heap.size w w' := by
 have HB := aM (Below.refl w.heap.size w)
 have H := h; clear h; unfold impl_apart.f at H
 obtain ⟨ji3, hji3⟩ : ∃ j_ : Int, (mx (wrap64 (a0 - a1)) (wrap64 (a1 - a0))) = j_ := ⟨_, rfl⟩
 replace H : (some ji3) = some r := by first | (rw [hji3] at H; exact H) | (simp only [hji3] at H ⊢; exact H)
 have hji3_ : (if (wrap64 (a0 - a1)) < (wrap64 (a1 - a0)) then (wrap64 (a1 - a0)) else (wrap64 (a0 - a1))) = ji3 := hji3
 obtain rfl := Option.some.inj H
 go_enter Tryd.func40, Tryd.ntmps40
 go_wp2
 go_ret
 exact ⟨by first | rfl | (simp [errW_none, errW_some] <;> rfl) | (simp only [← hji3]; first | rfl | (simp [errW_none, errW_some] <;> rfl)) | (simp [*, errW_none, errW_some] <;> rfl), HB.out⟩

/-! ### impl_SavedByPairs: function 12 -/
def impl_SavedByPairs.f (k : Nat) (a0 : ByteArray) (a1 : ByteArray) : Option (Int × Bool) := (impl_FewestPairMoves.f k a0 a1).bind fun bt401 => (if bt401.2 = true then ((impl_number.f k a0).bind fun t403 => ((impl_number.f k a1).bind fun t404 => ((impl_apart.f t403 t404).bind fun t405 => (some (wrap64 (t405 - bt401.1), true))))) else (some (0, false)))
theorem impl_SavedByPairs.mono : ∀ a0 a1 k, LeO (impl_SavedByPairs.f k a0 a1) (impl_SavedByPairs.f (k + 1) a0 a1) := by
 intro a0 a1 k
 unfold impl_SavedByPairs.f
 with_reducible repeat' first | exact impl_FewestPairMoves.mono _ _ _ | exact impl_number.mono _ _ | exact LeO.refl _ | exact LeO.none _ | refine LeO.ite ?_ ?_ | refine LeO.bind ?_ (fun _ => ?_)
set_option maxHeartbeats 8000000 in
set_option maxRecDepth 100000 in
theorem impl_SavedByPairs.calls (k : Nat) (a0 : ByteArray) (a1 : ByteArray) (r1 : Int) (r2 : Bool) (w : World) (h : impl_SavedByPairs.f k a0 a1 = some (r1, r2)) :
  Calls Tryd.prog 12 #[.string a0, .string a1] w fun e w' => e = .returned (.tuple #[.int .i64 r1, .bool r2]) ∧ Below w.heap.size w w' := by
 have HB := aM (Below.refl w.heap.size w)
 have H := h; clear h; unfold impl_SavedByPairs.f at H
 replace H := jS H; obtain ⟨⟨t401, t402⟩, A3, H⟩ := H; dsimp only at H
 by_cases c4 : t402 = true
 ·subst c4
  replace H := jT H
  replace H := jS H; obtain ⟨t403, A5, H⟩ := H
  replace H := jS H; obtain ⟨t404, A6, H⟩ := H
  replace H := jS H; obtain ⟨t405, A7, H⟩ := H
  simp only [Option.some.injEq, Prod.mk.injEq] at H
  obtain ⟨rfl, rfl⟩ := H
  go_enter Tryd.func12, Tryd.ntmps12
  go_wp2_with (first | ((with_reducible refine gC 8 rfl ?_); refine gL (some 11) Tryd.func8 #[.string a0, .string a1] ?_; (with_reducible refine (impl_FewestPairMoves.calls k a0 a1 t401 true _ A3.out).mono ?_); rintro e w8 ⟨rfl, hb⟩; refine ⟨_, rfl, ?_⟩; replace HB := aM (below_step bQ hb); (try clear hb)) | ((with_reducible refine gC 33 rfl ?_); refine gL (some 17) Tryd.func33 #[.string a0] ?_; (with_reducible refine (impl_number.calls k a0 t403 _ A5.out).mono ?_); rintro e w' ⟨rfl, ⟨nd, rfl⟩⟩; refine ⟨_, rfl, ?_⟩) | ((with_reducible refine gC 33 rfl ?_); refine gL (some 19) Tryd.func33 #[.string a1] ?_; (with_reducible refine (impl_number.calls k a1 t404 _ A6.out).mono ?_); rintro e w' ⟨rfl, ⟨nd, rfl⟩⟩; refine ⟨_, rfl, ?_⟩) | ((with_reducible refine gC 40 rfl ?_); refine gL (some 20) Tryd.func40 #[.int .i64 t403, .int .i64 t404] ?_; (with_reducible refine (impl_apart.calls t403 t404 t405 _ A7.out).mono ?_); rintro e w9 ⟨rfl, hb⟩; refine ⟨_, rfl, ?_⟩; replace HB := aM (below_step bQ hb); (try clear hb)))
  go_ret2
  exact ⟨rfl, HB.out⟩
 ·replace c4 := Bool.eq_false_iff.mpr c4
  subst c4
  replace H := jF H
  simp only [Option.some.injEq, Prod.mk.injEq] at H
  obtain ⟨rfl, rfl⟩ := H
  go_enter Tryd.func12, Tryd.ntmps12
  go_wp2_with (first | ((with_reducible refine gC 8 rfl ?_); refine gL (some 11) Tryd.func8 #[.string a0, .string a1] ?_; (with_reducible refine (impl_FewestPairMoves.calls k a0 a1 t401 false _ A3.out).mono ?_); rintro e w10 ⟨rfl, hb⟩; refine ⟨_, rfl, ?_⟩; replace HB := aM (below_step HB.out hb); (try clear hb)))
  go_ret2
  exact ⟨rfl, HB.out⟩

/-! ### spec_l1Most: function 58 -/
def spec_l1Most.f (a0 : Int) (a1 : Int) : Option (Int) := if a0 > a1 then (some a0) else (some a1)
set_option maxHeartbeats 8000000 in
set_option maxRecDepth 100000 in
theorem spec_l1Most.calls (a0 : Int) (a1 : Int) (r : Int) (w : World) (h : spec_l1Most.f a0 a1 = some r) :
  Calls Tryd.prog 58 #[.int .i64 a0, .int .i64 a1] w fun e w' => e = .returned (.int .i64 r) ∧ Drawn0 w w' := by
 have H := h; clear h; unfold spec_l1Most.f at H
 replace H := iE H; obtain ⟨c3b0, H⟩ | ⟨c3b0, H⟩ := H
 ·obtain rfl := Option.some.inj H
  go_enter Tryd.func58, Tryd.ntmps58
  go_wp2
  go_ret
  exact ⟨rfl, by repeat (first | exact Drawn0.refl _ | apply Drawn0.step)⟩
 ·obtain rfl := Option.some.inj H
  go_enter Tryd.func58, Tryd.ntmps58
  go_wp2
  go_ret
  exact ⟨rfl, by repeat (first | exact Drawn0.refl _ | apply Drawn0.step)⟩

/-! ### spec_l1Abs: function 41 -/
def spec_l1Abs.f (a0 : Int) : Option (Int) := (spec_l1Most.f a0 (wrap64 (-a0))).bind fun t406 => (some t406)
set_option maxHeartbeats 8000000 in
set_option maxRecDepth 100000 in
theorem spec_l1Abs.calls (a0 : Int) (r : Int) (w : World) (h : spec_l1Abs.f a0 = some r) :
  Calls Tryd.prog 41 #[.int .i64 a0] w fun e w' => e = .returned (.int .i64 r) ∧ Drawn0 w w' := by
 have H := h; clear h; unfold spec_l1Abs.f at H
 replace H := jS H; obtain ⟨t406, A2, H⟩ := H
 obtain rfl := Option.some.inj H
 go_enter Tryd.func41, Tryd.ntmps41
 go_wp2_with (first | ((with_reducible refine gC 58 rfl ?_); refine gL (some 6) Tryd.func58 #[.int .i64 a0, .int .i64 (wrap64 (-a0))] ?_; (with_reducible refine (spec_l1Most.calls a0 (wrap64 (-a0)) t406 _ A2.out).mono ?_); rintro e w' ⟨rfl, ⟨nd, rfl⟩⟩; refine ⟨_, rfl, ?_⟩))
 go_ret
 exact ⟨rfl, by repeat (first | exact Drawn0.refl _ | apply Drawn0.step)⟩

/-! ### spec_SavedByPairs: function 13 -/
def spec_SavedByPairs.f (k : Nat) (a0 : ByteArray) (a1 : ByteArray) : Option (Int × Bool) := (spec_twTwo.f k a0 a1).bind fun t407 => (if t407 = true then ((spec_twFar.f k a1).bind fun bt408 => ((spec_riNumber.f k a0).bind fun t414 => ((spec_riNumber.f k a1).bind fun t415 => ((spec_l1Abs.f (wrap64 (t414 - t415))).bind fun t416 => ((spec_riNumber.f k a0).bind fun t417 => (if 0 ≤ t417 then (if t417 < (bt408.1.length : Int) then (some (wrap64 (t416 - (rd bt408.1 t417)), true)) else (none)) else (none))))))) else (some (0, false)))
theorem spec_SavedByPairs.mono : ∀ a0 a1 k, LeO (spec_SavedByPairs.f k a0 a1) (spec_SavedByPairs.f (k + 1) a0 a1) := by
 intro a0 a1 k
 unfold spec_SavedByPairs.f
 with_reducible repeat' first | exact spec_riNumber.mono _ _ | exact spec_twFar.mono _ _ | exact spec_twTwo.mono _ _ _ | exact LeO.refl _ | exact LeO.none _ | refine LeO.ite ?_ ?_ | refine LeO.bind ?_ (fun _ => ?_)
set_option maxHeartbeats 8000000 in
set_option maxRecDepth 100000 in
theorem spec_SavedByPairs.calls (k : Nat) (a0 : ByteArray) (a1 : ByteArray) (r1 : Int) (r2 : Bool) (w : World) (h : spec_SavedByPairs.f k a0 a1 = some (r1, r2)) :
  Calls Tryd.prog 13 #[.string a0, .string a1] w fun e w' => e = .returned (.tuple #[.int .i64 r1, .bool r2]) ∧ Below w.heap.size w w' := by
 have HB := aM (Below.refl w.heap.size w)
 have H := h; clear h; unfold spec_SavedByPairs.f at H
 replace H := jS H; obtain ⟨t407, A3, H⟩ := H
 by_cases c4 : t407 = true
 ·subst c4
  replace H := jT H
  replace H := jS H; obtain ⟨⟨t408, t409⟩, A5, H⟩ := H; dsimp only at H
  replace H := jS H; obtain ⟨t414, A6, H⟩ := H
  replace H := jS H; obtain ⟨t415, A7, H⟩ := H
  replace H := jS H; obtain ⟨t416, A8, H⟩ := H
  replace H := jS H; obtain ⟨t417, A9, H⟩ := H
  replace H := iC H; obtain ⟨c10, H⟩ := H
  have c10b0 := decide_eq_true c10
  clear c10
  replace H := iN H; obtain ⟨c11b0, H⟩ := H
  simp only [Option.some.injEq, Prod.mk.injEq] at H
  obtain ⟨rfl, rfl⟩ := H
  go_enter Tryd.func13, Tryd.ntmps13
  go_wp2_with (first | ((with_reducible refine gC 36 rfl ?_); refine gL (some 10) Tryd.func36 #[.string a0, .string a1] ?_; (with_reducible refine (spec_twTwo.calls k a0 a1 true _ A3.out).mono ?_); rintro e w' ⟨rfl, ⟨nd, rfl⟩⟩; refine ⟨_, rfl, ?_⟩) | ((with_reducible refine gC 38 rfl ?_); refine gL (some 14) Tryd.func38 #[.string a1] ?_; (with_reducible refine (spec_twFar.calls k a1 t408 t409 _ A5.out).mono ?_); rintro e w12 ⟨v410, v412, rfl, ho0, ho1, hb⟩; refine ⟨_, rfl, ?_⟩; have HO411 := aM (Kd.R_lower ho0 (below_size bQ)); have HO413 := aM (Kd.R_lower ho1 (below_size bQ)); replace HB := aM (below_step bQ hb); (try clear hb); (try clear ho0); (try clear ho1)) | ((with_reducible refine gC 39 rfl ?_); refine gL (some 18) Tryd.func39 #[.string a0] ?_; (with_reducible refine (spec_riNumber.calls k a0 t414 _ A6.out).mono ?_); rintro e w' ⟨rfl, ⟨nd, rfl⟩⟩; refine ⟨_, rfl, ?_⟩) | ((with_reducible refine gC 39 rfl ?_); refine gL (some 20) Tryd.func39 #[.string a1] ?_; (with_reducible refine (spec_riNumber.calls k a1 t415 _ A7.out).mono ?_); rintro e w' ⟨rfl, ⟨nd, rfl⟩⟩; refine ⟨_, rfl, ?_⟩) | ((with_reducible refine gC 41 rfl ?_); refine gL (some 22) Tryd.func41 #[.int .i64 (wrap64 (t414 - t415))] ?_; (with_reducible refine (spec_l1Abs.calls (wrap64 (t414 - t415)) t416 _ A8.out).mono ?_); rintro e w' ⟨rfl, ⟨nd, rfl⟩⟩; refine ⟨_, rfl, ?_⟩) | ((with_reducible refine gC 39 rfl ?_); refine gL (some 25) Tryd.func39 #[.string a0] ?_; (with_reducible refine (spec_riNumber.calls k a0 t417 _ A9.out).mono ?_); rintro e w' ⟨rfl, ⟨nd, rfl⟩⟩; refine ⟨_, rfl, ?_⟩; obtain ⟨Ao13, co13, eo13⟩ := Kd.R_slice HO411.out; subst eo13; obtain ⟨ad418, e418, hx418_0, p418, q418⟩ := aZ (Kd.at_int (Kd.R_reads' HO411.out).2.2 t417); cases e418))
  go_ret2
  exact ⟨rfl, bQ⟩
 ·replace c4 := Bool.eq_false_iff.mpr c4
  subst c4
  replace H := jF H
  simp only [Option.some.injEq, Prod.mk.injEq] at H
  obtain ⟨rfl, rfl⟩ := H
  go_enter Tryd.func13, Tryd.ntmps13
  go_wp2_with (first | ((with_reducible refine gC 36 rfl ?_); refine gL (some 10) Tryd.func36 #[.string a0, .string a1] ?_; (with_reducible refine (spec_twTwo.calls k a0 a1 false _ A3.out).mono ?_); rintro e w' ⟨rfl, ⟨nd, rfl⟩⟩; refine ⟨_, rfl, ?_⟩))
  go_ret2
  exact ⟨rfl, bQ⟩

end Go.Proofs.YtppbohghongfmaaDoor.PN
