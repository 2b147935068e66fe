-- written by a program of this session's (wip/tools), over the kit's print
import Derived.Test.YtapkmmbeopbpjaaPAx0
import Derived.Test.YtapkmmbeopbpjaaPAx2
import Derived.Test.YtapkmmbeopbpjaaPAx7
namespace Go.Proofs.Ytapkmmbeopbpjaa.PA
open Go.RowKit Go.Proofs.YtapkmmbeopbpjaaW.PrintWords Go.Proofs.YtapkmmbeopbpjaaW.PrintLast Go.Proofs.YtapkmmbeopbpjaaW.PrintMore
attribute [local go_sem] max2_int min2_int max_two min_two max_three min_three max_four min_four   -- for this text's walks alone
set_option linter.unusedVariables false
set_option linter.unusedSimpArgs false

/-! ### impl_StairBox: function 14 (told by hand) -/
/-! The function value of impl.StairBox. -/
def impl_StairBox_1.f (k : Nat) (a0 : Int) (a1 : Int) (a2 : Int) (a3 : Int) : Option (ByteArray) := if a0 = 0 then ((strings_Repeat.f (⟨#[63]⟩ : ByteArray) a2).bind fun t151 => (some t151)) else (if (Int.tmod a1 2) = 0 then ((strings_Repeat.f (⟨#[63]⟩ : ByteArray) (wrap64 (a0 - 1))).bind fun t152 => ((impl_digits.f k (([wrap64 (a3 - 1)] : List Int))).bind fun t156 => (if t152.size + t156.size ≤ 9223372036854775807 then ((strings_Repeat.f (⟨#[63]⟩ : ByteArray) (wrap64 (a2 - a0))).bind fun t157 => (if (t152 ++ t156).size + t157.size ≤ 9223372036854775807 then (some ((t152 ++ t156) ++ t157)) else (none))) else (none)))) else ((strings_Repeat.f (⟨#[63]⟩ : ByteArray) (wrap64 (a0 - 1))).bind fun t158 => ((impl_digits.f k (([0] : List Int))).bind fun t162 => (if t158.size + t162.size ≤ 9223372036854775807 then ((strings_Repeat.f (⟨#[63]⟩ : ByteArray) (wrap64 (a2 - a0))).bind fun t163 => (if (t158 ++ t162).size + t163.size ≤ 9223372036854775807 then (some ((t158 ++ t162) ++ t163)) else (none))) else (none)))))
theorem impl_StairBox_1.mono : ∀ a0 a1 a2 a3 k, LeO (impl_StairBox_1.f k a0 a1 a2 a3) (impl_StairBox_1.f (k + 1) a0 a1 a2 a3) := by
  intro a0 a1 a2 a3 k
  unfold impl_StairBox_1.f
  repeat' first
      | (with_reducible exact impl_digits.mono _ _)
      | (with_reducible exact LeO.refl _)
      | (with_reducible exact LeO.none _)
      | (with_reducible refine LeO.ite ?_ ?_)
      | (with_reducible refine LeO.bind ?_ (fun _ => ?_))
      | exact impl_digits.mono _ _
      | exact LeO.none _
      | refine LeO.ite ?_ ?_
      | refine LeO.bind ?_ (fun _ => ?_)
def impl_StairBox_1.T6 : Bool × List (List Nat × List Nat) := (true, [([], []), ([0], [0]), ([1], [1]), ([], []), ([3], [3]), ([4, 2], [4]), ([2, 5], [2, 5]), ([], []), ([], []), ([7, 8], [7, 8]), ([9, 5], [9]), ([6, 10], [6, 10]), ([11, 10, 0, 1, 2, 3, 4, 5, 6, 7, 8, 9, 10, 11], [11])])
def impl_StairBox_1.B6 : List Nat := [0, 1, 3, 0, 8, 31, 63, 0, 0, 384, 959, 2047, 4095]
theorem impl_StairBox_1.tab6 : rtab .any (opsOf Try.f26 6) = impl_StairBox_1.T6 := by kernel_rfl
theorem impl_StairBox_1.bits6 : waitsOk impl_StairBox_1.T6.2 impl_StairBox_1.B6 = true := by kernel_rfl
set_option maxHeartbeats 8000000 in
set_option maxRecDepth 100000 in
theorem impl_StairBox_1.calls (k : Nat) (a0 : Int) (a1 : Int) (a2 : Int) (a3 : Int) (r : ByteArray) (w : World) (B_ : Nat) (hB_ : B_ + 1 < w.heap.size) (h2_ : w.cell? ⟨B_, 0, none⟩ = some (.int .i64 a2)) (h3_ : w.cell? ⟨B_ + 1, 0, none⟩ = some (.int .i64 a3)) (h : impl_StairBox_1.f k a0 a1 a2 a3 = some r) :
    Calls Try.prog 26 #[.int .i64 a0, .int .i64 a1, .pointer (some ⟨B_, 0, none⟩), .pointer (some ⟨B_ + 1, 0, none⟩)] w fun e w' => e = .returned (.string r) ∧ Below w.heap.size w w' := by
  have HB := Aside0.mk (Below.refl w.heap.size w)
  have HLT := Aside0.mk (show B_ < w.heap.size by omega)
  have HC2 := Aside0.mk h2_
  clear hB_
  have H : (if a0 = 0 then ((strings_Repeat.f (⟨#[63]⟩ : ByteArray) a2).bind fun t151 => (some t151)) else (if (Int.tmod a1 2) = 0 then ((strings_Repeat.f (⟨#[63]⟩ : ByteArray) (wrap64 (a0 - 1))).bind fun t152 => ((impl_digits.f k (([wrap64 (a3 - 1)] : List Int))).bind fun t156 => (if t152.size + t156.size ≤ 9223372036854775807 then ((strings_Repeat.f (⟨#[63]⟩ : ByteArray) (wrap64 (a2 - a0))).bind fun t157 => (if (t152 ++ t156).size + t157.size ≤ 9223372036854775807 then (some ((t152 ++ t156) ++ t157)) else (none))) else (none)))) else ((strings_Repeat.f (⟨#[63]⟩ : ByteArray) (wrap64 (a0 - 1))).bind fun t158 => ((impl_digits.f k (([0] : List Int))).bind fun t162 => (if t158.size + t162.size ≤ 9223372036854775807 then ((strings_Repeat.f (⟨#[63]⟩ : ByteArray) (wrap64 (a2 - a0))).bind fun t163 => (if (t158 ++ t162).size + t163.size ≤ 9223372036854775807 then (some ((t158 ++ t162) ++ t163)) else (none))) else (none)))))) = some r := h
  clear h
  by_cases c5 : a0 = 0
  · rw [if_pos c5] at H
    have c5b0 : (a0 == 0) = true := beq_iff_eq.mpr c5
    have c5b1 : (a0 != 0) = false := bne_eq_false_iff_eq.mpr c5
    clear c5
    replace H := Option.bind_eq_some_iff.mp H
    obtain ⟨t151, A60, H⟩ := H
    replace H : (some t151) = some r := H
    have A6 := Aside0.mk A60
    clear A60
    obtain rfl := Option.some.inj H
    go_enter Try.func26, Try.ntmps26
    go_wp2_with (first | ((with_reducible refine gate_callee (f := 19) rfl ?_); refine goesL_ (some 11) rfl rfl Try.func19 (by kernel_rfl) rfl #[.string (⟨#[63]⟩ : ByteArray), .int .i64 a2] rfl (by (try simp only [List.map_toArray, List.map_cons, List.map_nil]); first | done | rfl | (simp only [List.length_drop, List.length_take]; rfl)) ?_; (with_reducible refine (strings_Repeat.calls (⟨#[63]⟩ : ByteArray) a2 t151 _ A6.out).mono ?_); rintro e w7 ⟨rfl, hb⟩; refine ⟨_, rfl, ?_⟩; have n0_ := Aside0.mk (below_step (by repeat (first | (with_reducible first | exact HB.out | apply below_alloc | apply pw_below_drewN | apply below_drew1) | exact HB.out)) hb); clear HB; have HB := n0_; clear n0_; (try clear hb); (try clear hb2); (try clear hk); (try clear hi)))
    go_ret
    exact ⟨by first | rfl | (simp [errW_none, errW_some] <;> rfl) | (simp [*, errW_none, errW_some] <;> rfl), by repeat (first | (with_reducible first | exact HB.out | apply below_alloc | apply pw_below_drewN | apply below_drew1) | exact HB.out)⟩
  · rw [if_neg c5] at H
    have c5b0 : (a0 == 0) = false := beq_eq_false_iff_ne.mpr c5
    have c5b1 : (a0 != 0) = true := bne_iff_ne.mpr c5
    by_cases c8 : (Int.tmod a1 2) = 0
    · rw [if_pos c8] at H
      have c8b0 : ((Int.tmod a1 2) == 0) = true := beq_iff_eq.mpr c8
      have c8b1 : ((Int.tmod a1 2) != 0) = false := bne_eq_false_iff_eq.mpr c8
      clear c8
      replace H := Option.bind_eq_some_iff.mp H
      obtain ⟨t152, A90, H⟩ := H
      replace H : ((impl_digits.f k (([wrap64 (a3 - 1)] : List Int))).bind fun t156 => (if t152.size + t156.size ≤ 9223372036854775807 then ((strings_Repeat.f (⟨#[63]⟩ : ByteArray) (wrap64 (a2 - a0))).bind fun t157 => (if (t152 ++ t156).size + t157.size ≤ 9223372036854775807 then (some ((t152 ++ t156) ++ t157)) else (none))) else (none))) = some r := H
      have A9 := Aside0.mk A90
      clear A90
      obtain ⟨y153, hy153⟩ : ∃ y_ : List Int, y_ = (([wrap64 (a3 - 1)] : List Int)) := ⟨_, rfl⟩
      replace H : ((impl_digits.f k y153).bind fun t156 => (if t152.size + t156.size ≤ 9223372036854775807 then ((strings_Repeat.f (⟨#[63]⟩ : ByteArray) (wrap64 (a2 - a0))).bind fun t157 => (if (t152 ++ t156).size + t157.size ≤ 9223372036854775807 then (some ((t152 ++ t156) ++ t157)) else (none))) else (none))) = some r := by first | (rw [hy153]; with_reducible exact H) | (have H2_ := (Option.bind_some _ _).symm.trans H; rw [hy153]; with_reducible exact H2_) | (have H2_ := (Option.bind_some _ _).symm.trans H; with_reducible exact H2_) | with_reducible exact H | (rw [hy153]; exact H) | exact H
      have Ny153 := Aside0.mk hy153
      clear hy153
      replace H := Option.bind_eq_some_iff.mp H
      obtain ⟨t156, A100, H⟩ := H
      replace H : (if t152.size + t156.size ≤ 9223372036854775807 then ((strings_Repeat.f (⟨#[63]⟩ : ByteArray) (wrap64 (a2 - a0))).bind fun t157 => (if (t152 ++ t156).size + t157.size ≤ 9223372036854775807 then (some ((t152 ++ t156) ++ t157)) else (none))) else (none)) = some r := H
      have A10 := Aside0.mk A100
      clear A100
      by_cases c11 : t152.size + t156.size ≤ 9223372036854775807
      · rw [if_pos c11] at H
        have c11b0 := eq_true c11
        have c11b1 : decide (t152.size + t156.size ≤ 9223372036854775807) = true := decide_eq_true c11
        try have c11b2 : (9223372036854775807 < t152.size + t156.size) = False := eq_false (Nat.not_lt.2 c11)
        replace H := Option.bind_eq_some_iff.mp H
        obtain ⟨t157, A120, H⟩ := H
        replace H : (if (t152 ++ t156).size + t157.size ≤ 9223372036854775807 then (some ((t152 ++ t156) ++ t157)) else (none)) = some r := H
        have A12 := Aside0.mk A120
        clear A120
        by_cases c13 : (t152 ++ t156).size + t157.size ≤ 9223372036854775807
        · rw [if_pos c13] at H
          have c13b0 := eq_true c13
          have c13s : t152.size + t156.size + t157.size ≤ 9223372036854775807 := by rw [← ByteArray.size_append]; exact c13
          have c13b1 : decide ((t152 ++ t156).size + t157.size ≤ 9223372036854775807) = true := decide_eq_true c13
          try have c13b2 : (9223372036854775807 < (t152 ++ t156).size + t157.size) = False := eq_false (Nat.not_lt.2 c13)
          obtain rfl := Option.some.inj H
          go_enter Try.func26, Try.ntmps26
          try go_wp2
          have n0_ := Aside0.mk (below_drew1 HB.out)
          clear HB
          have HB := n0_
          clear n0_
          refine start_ (n := 13) (S := fun w' => True) (ds := []) #[false, false, false, false, false, false, false, false, false, false, false, false, false] (by kernel_rfl) rfl rfl trivial (fun hHeld => ?_); refine with_tabW impl_StairBox_1.tab6 impl_StairBox_1.bits6 (fun HT_ HW_ => ?_)
          generalize w.drew = w14 at HB hHeld ⊢
          refine pure_ (i := 0) (N := some 17) (v := ?_) (a' := ?_) #[true, false, false, false, false, false, false, false, false, false, false, false, false] rfl rfl (any_of HT_.out (by kernel_rfl)) (fun _ _ _ h => h) (Or.inl ⟨by rfl, ?_⟩) ?_ ?_
          rotate_left
          · intro w'
            go_simp
            with_reducible rfl
          rotate_left
          · simp only [Act.put, List.setIfInBounds_toArray, List.set_cons_zero, List.set_cons_succ, i64_w, i32_w]
            rfl
          refine pure_ (i := 3) (N := some 20) (v := ?_) (a' := ?_) #[true, false, false, true, false, false, false, false, false, false, false, false, false] rfl rfl (any_of HT_.out (by kernel_rfl)) (fun _ _ _ h => h) (Or.inl ⟨by rfl, ?_⟩) ?_ ?_
          rotate_left
          · intro w'
            go_simp
            with_reducible rfl
          rotate_left
          · simp only [Act.put, List.setIfInBounds_toArray, List.set_cons_zero, List.set_cons_succ, i64_w, i32_w]
            rfl
          refine pure_ (i := 8) (N := some 25) (v := ?_) (a' := ?_) #[true, false, false, true, false, false, false, false, true, false, false, false, false] rfl rfl (any_of HT_.out (by kernel_rfl)) (fun _ _ _ h => h) (Or.inl ⟨by rfl, ?_⟩) ?_ ?_
          rotate_left
          · intro w'
            go_simp
            with_reducible rfl
          rotate_left
          · simp only [Act.put, List.setIfInBounds_toArray, List.set_cons_zero, List.set_cons_succ, i64_w, i32_w]
            rfl
          refine inv_at [1, 2, 4, 5, 6, 7, 9, 10, 11, 12] (fun a0_ b a w' => ∃ (v154 : Value), a = putSel a0_ b [(1, 18, .int .i64 (wrap64 (a0 - 1))), (2, 19, .string t152), (4, 21, v154), (5, 22, .string t156), (6, 23, .string (t152 ++ t156)), (7, 24, .int .i64 a2), (9, 26, .int .i64 (wrap64 (a2 - a0))), (10, 27, .string t157), (11, 28, .string ((t152 ++ t156) ++ t157)), (12, 6, .string ((t152 ++ t156) ++ t157))] ∧ (Below w.heap.size w w') ∧ (b 4 = true → Kd.R (Kd.int .i64) 3 w' w.heap.size (fun _ => True) v154 y153)) HT_.out HW_.out (by kernel_rfl) (by kernel_rfl) ?_ ?_ ?_
          · exact ⟨.bool false, by simp only [putSel, Bool.false_eq_true, if_false], HB.out, fun h_ => absurd h_ (by decide)⟩
          · skip
            clear HB
            refine steps_cons ?_ ?_
            · rintro b a w' ⟨v154, ha, Q_HB, Q_HO155⟩ hb_ hon hoff
              refine ⟨_, rfl, fun K hK => ?_⟩
              have e17 : a.tmps[17]? = some (.int .i64 a0) := by rw [ha]; exact (putSel_off rfl).trans rfl
              replace ha := Aside0.mk ha
              have HB := Aside0.mk Q_HB
              refine value_ (w1 := w') (v := .int .i64 (wrap64 (a0 - 1))) (by rfl) rfl ?_ ?_
              · go_simp
                (try simp only [i64_w])
                try rfl
              refine hK.out _ _ ⟨v154, (by rw [ha.out]; exact putSel_upk 0 hb_ rfl rfl rfl), Q_HB, Q_HO155⟩
            refine steps_cons ?_ ?_
            · rintro b a w' ⟨v154, ha, Q_HB, Q_HO155⟩ hb_ hon hoff
              refine ⟨_, rfl, fun K hK => ?_⟩
              have e18 : a.tmps[18]? = some (.int .i64 (wrap64 (a0 - 1))) := by rw [ha]; exact putSel_on (e := (1, 18, .int .i64 (wrap64 (a0 - 1)))) 0 rfl rfl (hon 1 (by kernel_rfl)) rfl
              replace ha := Aside0.mk ha
              have HB := Aside0.mk Q_HB
              refine goes_ Try.func19 (by kernel_rfl) rfl #[.string (⟨#[63]⟩ : ByteArray), .int .i64 (wrap64 (a0 - 1))] (by rfl) rfl rfl (by first | (simp only [List.map_toArray, List.map_cons, List.map_nil, Act.eval, Array.getD_eq_getD_getElem?, Option.getD_some, e18]; done) | (simp only [List.map_toArray, List.map_cons, List.map_nil, Act.eval, Array.getD_eq_getD_getElem?, Option.getD_some, e18]; rfl)) ?_
              with_reducible refine (strings_Repeat.calls (⟨#[63]⟩ : ByteArray) (wrap64 (a0 - 1)) t152 _ A9.out).mono ?_
              rintro e w15 ⟨rfl, hb⟩
              refine ⟨_, rfl, ?_⟩
              have n0_ := Aside0.mk (below_step (by repeat (first | (with_reducible first | exact HB.out | apply below_alloc | apply pw_below_drewN | apply below_drew1) | exact HB.out)) hb)
              have z_HO155 := fun (h0_ : b 4 = true) => (show Kd.R (Kd.int .i64) 3 w15 w.heap.size (fun _ => True) v154 y153 from by first | exact (Kd.R_below (by (with_reducible repeat (first | apply Kd.R_alloc | apply Kd.R_drewN | apply Kd.R_drew)); exact (Q_HO155 h0_)) hb) | exact Kd.R_mono (Kd.R_below (by (with_reducible repeat (first | apply Kd.R_alloc | apply Kd.R_drewN | apply Kd.R_drew)); exact (Q_HO155 h0_)) hb) (fun _ h_ => by first | trivial | exact h_ | exact h_.1))
              clear HB
              have HB := n0_
              clear n0_
              (try clear hb)
              (try clear hb2)
              (try clear hk)
              (try clear hi)
              refine hK.out _ _ ⟨v154, (by rw [ha.out]; exact putSel_upk 1 hb_ rfl rfl rfl), (by repeat (first | (with_reducible first | exact HB.out | apply below_alloc | apply pw_below_drewN | apply below_drew1) | exact HB.out)), z_HO155⟩
            refine steps_cons ?_ ?_
            · rintro b a w' ⟨v154, ha, Q_HB, Q_HO155⟩ hb_ hon hoff
              refine ⟨_, rfl, fun K hK => ?_⟩
              have e20 : a.tmps[20]? = some (.int .i64 (wrap64 (a3 - 1))) := by rw [ha]; exact (putSel_off rfl).trans rfl
              replace ha := Aside0.mk ha
              have HB := Aside0.mk Q_HB
              refine Kd.R_lit_step (Kd.int .i64) _ 3 ?hg (N := 21) ?hd (xs := ([wrap64 (a3 - 1)] : List Int)) (inner := [.int .i64 (wrap64 (a3 - 1))]) (ok := fun _ => True) (okp := fun _ => True) ?hr ?hp (fun _ hk => hk) trivial (Below.refl _ _) (Nat.le_refl _) (by simp) ?_; (case hd => rfl); (case hg => rfl); (case hr => first | (go_simp; done) | (go_simp; rfl)); (case hp => exact (Reps.one (show Kd.M (Kd.int .i64) _ _ _ (wrap64 (a3 - 1)) [.int .i64 (wrap64 (a3 - 1))] from rfl) (Reps.none _ _)))
              intro v154 w15 ho16 hb hg_ hnew_
              clear hg_ hnew_
              (first | rw [← Ny153.out] at ho16 | (simp only [Int.reduceToNat] at ho16; rw [← Ny153.out] at ho16))
              have n0_ := Aside0.mk (Kd.R_lower ho16 (below_size (by repeat (first | (with_reducible first | exact HB.out | apply below_alloc | apply pw_below_drewN | apply below_drew1) | exact HB.out))))
              have n1_ := Aside0.mk (below_step (by repeat (first | (with_reducible first | exact HB.out | apply below_alloc | apply pw_below_drewN | apply below_drew1) | exact HB.out)) hb)
              clear HB
              have HO155 := n0_
              have HB := n1_
              clear n0_ n1_
              clear hb ho16
              refine hK.out _ _ ⟨v154, (by rw [ha.out]; exact putSel_upk 2 hb_ rfl rfl rfl), (by repeat (first | (with_reducible first | exact HB.out | apply below_alloc | apply pw_below_drewN | apply below_drew1) | exact HB.out)), fun _ => (by (with_reducible repeat (first | apply Kd.R_alloc | apply Kd.R_drewN | apply Kd.R_drew)); exact HO155.out)⟩
            refine steps_cons ?_ ?_
            · rintro b a w' ⟨v154, ha, Q_HB, Q_HO155⟩ hb_ hon hoff
              refine ⟨_, rfl, fun K hK => ?_⟩
              have e21 : a.tmps[21]? = some (v154) := by rw [ha]; exact putSel_on (e := (4, 21, v154)) 2 rfl rfl (hon 4 (by kernel_rfl)) rfl
              replace ha := Aside0.mk ha
              have HB := Aside0.mk Q_HB
              have HO155 := Aside0.mk (Q_HO155 (hon 4 (by kernel_rfl)))
              obtain ⟨Ao19, co19, eo19⟩ := Kd.R_slice HO155.out
              (first | subst eo19 | (injection eo19 with f1_ f2_ f3_; have f4_ := f1_.symm; have f5_ := f3_.symm; clear f1_ f2_ f3_; subst f4_; subst f5_))
              refine goes_ Try.func27 (by kernel_rfl) rfl #[.slice Ao19 y153.length co19] (by rfl) rfl rfl (by first | (simp only [List.map_toArray, List.map_cons, List.map_nil, Act.eval, Array.getD_eq_getD_getElem?, Option.getD_some, e21]; done) | (simp only [List.map_toArray, List.map_cons, List.map_nil, Act.eval, Array.getD_eq_getD_getElem?, Option.getD_some, e21]; rfl)) ?_
              with_reducible refine (impl_digits.calls k _ _ y153 t156 _ ?side1 ?side2 A10.out).mono ?_
              (case side1 => repeat (first | exact (Kd.R_reads' HO155.out).2.2 | (with_reducible refine Kd.C_alloc ?_ _) | (with_reducible refine Kd.C_drewN ?_ _) | (with_reducible refine Kd.C_drew ?_)))
              (case side2 => exact (Kd.R_reads' HO155.out).2.1)
              rintro e w20 ⟨rfl, hb⟩
              refine ⟨_, rfl, ?_⟩
              have n0_ := Aside0.mk (Kd.R_below (by (with_reducible repeat (first | apply Kd.R_alloc | apply Kd.R_drewN | apply Kd.R_drew)); exact HO155.out) hb)
              have n1_ := Aside0.mk (below_step (by repeat (first | (with_reducible first | exact HB.out | apply below_alloc | apply pw_below_drewN | apply below_drew1) | exact HB.out)) hb)
              clear HO155
              clear HB
              have HO155 := n0_
              have HB := n1_
              clear n0_ n1_
              (try clear hb)
              (try clear hb2)
              (try clear hk)
              (try clear hi)
              refine hK.out _ _ ⟨.slice Ao19 y153.length co19, (by rw [ha.out]; exact putSel_upk 3 hb_ rfl rfl rfl), (by repeat (first | (with_reducible first | exact HB.out | apply below_alloc | apply pw_below_drewN | apply below_drew1) | exact HB.out)), fun _ => (by (with_reducible repeat (first | apply Kd.R_alloc | apply Kd.R_drewN | apply Kd.R_drew)); exact HO155.out)⟩
            refine steps_cons ?_ ?_
            · rintro b a w' ⟨v154, ha, Q_HB, Q_HO155⟩ hb_ hon hoff
              refine ⟨_, rfl, fun K hK => ?_⟩
              have e19 : a.tmps[19]? = some (.string t152) := by rw [ha]; exact putSel_on (e := (2, 19, .string t152)) 1 rfl rfl (hon 2 (by kernel_rfl)) rfl
              have e22 : a.tmps[22]? = some (.string t156) := by rw [ha]; exact putSel_on (e := (5, 22, .string t156)) 3 rfl rfl (hon 5 (by kernel_rfl)) rfl
              replace ha := Aside0.mk ha
              have HB := Aside0.mk Q_HB
              have HO155 := Aside0.mk (Q_HO155 (hon 4 (by kernel_rfl)))
              refine value_ (w1 := w') (v := .string (t152 ++ t156)) (by rfl) rfl ?_ ?_
              · go_simp
                (try simp only [i64_w])
                try rfl
              refine hK.out _ _ ⟨v154, (by rw [ha.out]; exact putSel_upk 4 hb_ rfl rfl rfl), Q_HB, Q_HO155⟩
            refine steps_cons ?_ ?_
            · rintro b a w' ⟨v154, ha, Q_HB, Q_HO155⟩ hb_ hon hoff
              refine ⟨_, rfl, fun K hK => ?_⟩
              have e2 : a.tmps[2]? = some (.pointer (some ⟨B_, 0, none⟩)) := by rw [ha]; exact (putSel_off rfl).trans rfl
              replace ha := Aside0.mk ha
              have HB := Aside0.mk Q_HB
              have hld : w'.cell? ⟨B_, 0, none⟩ = some (.int .i64 a2) := (HB.out.cell (p := ⟨B_, 0, none⟩) HLT.out).trans HC2.out
              refine value_ (w1 := w') (v := .int .i64 a2) (by rfl) rfl ?_ ?_
              · go_simp
                try rfl
              refine hK.out _ _ ⟨v154, (by rw [ha.out]; exact putSel_upk 5 hb_ rfl rfl rfl), Q_HB, Q_HO155⟩
            refine steps_cons ?_ ?_
            · rintro b a w' ⟨v154, ha, Q_HB, Q_HO155⟩ hb_ hon hoff
              refine ⟨_, rfl, fun K hK => ?_⟩
              have e24 : a.tmps[24]? = some (.int .i64 a2) := by rw [ha]; exact putSel_on (e := (7, 24, .int .i64 a2)) 5 rfl rfl (hon 7 (by kernel_rfl)) rfl
              have e25 : a.tmps[25]? = some (.int .i64 a0) := by rw [ha]; exact (putSel_off rfl).trans rfl
              replace ha := Aside0.mk ha
              have HB := Aside0.mk Q_HB
              refine value_ (w1 := w') (v := .int .i64 (wrap64 (a2 - a0))) (by rfl) rfl ?_ ?_
              · go_simp
                (try simp only [i64_w])
                try rfl
              refine hK.out _ _ ⟨v154, (by rw [ha.out]; exact putSel_upk 6 hb_ rfl rfl rfl), Q_HB, Q_HO155⟩
            refine steps_cons ?_ ?_
            · rintro b a w' ⟨v154, ha, Q_HB, Q_HO155⟩ hb_ hon hoff
              refine ⟨_, rfl, fun K hK => ?_⟩
              have e26 : a.tmps[26]? = some (.int .i64 (wrap64 (a2 - a0))) := by rw [ha]; exact putSel_on (e := (9, 26, .int .i64 (wrap64 (a2 - a0)))) 6 rfl rfl (hon 9 (by kernel_rfl)) rfl
              replace ha := Aside0.mk ha
              have HB := Aside0.mk Q_HB
              have HO155 := Aside0.mk (Q_HO155 (hon 4 (by kernel_rfl)))
              refine goes_ Try.func19 (by kernel_rfl) rfl #[.string (⟨#[63]⟩ : ByteArray), .int .i64 (wrap64 (a2 - a0))] (by rfl) rfl rfl (by first | (simp only [List.map_toArray, List.map_cons, List.map_nil, Act.eval, Array.getD_eq_getD_getElem?, Option.getD_some, e26]; done) | (simp only [List.map_toArray, List.map_cons, List.map_nil, Act.eval, Array.getD_eq_getD_getElem?, Option.getD_some, e26]; rfl)) ?_
              with_reducible refine (strings_Repeat.calls (⟨#[63]⟩ : ByteArray) (wrap64 (a2 - a0)) t157 _ A12.out).mono ?_
              rintro e w21 ⟨rfl, hb⟩
              refine ⟨_, rfl, ?_⟩
              have n0_ := Aside0.mk (Kd.R_below (by (with_reducible repeat (first | apply Kd.R_alloc | apply Kd.R_drewN | apply Kd.R_drew)); exact HO155.out) hb)
              have n1_ := Aside0.mk (below_step (by repeat (first | (with_reducible first | exact HB.out | apply below_alloc | apply pw_below_drewN | apply below_drew1) | exact HB.out)) hb)
              clear HO155
              clear HB
              have HO155 := n0_
              have HB := n1_
              clear n0_ n1_
              (try clear hb)
              (try clear hb2)
              (try clear hk)
              (try clear hi)
              refine hK.out _ _ ⟨v154, (by rw [ha.out]; exact putSel_upk 7 hb_ rfl rfl rfl), (by repeat (first | (with_reducible first | exact HB.out | apply below_alloc | apply pw_below_drewN | apply below_drew1) | exact HB.out)), fun _ => (by (with_reducible repeat (first | apply Kd.R_alloc | apply Kd.R_drewN | apply Kd.R_drew)); exact HO155.out)⟩
            refine steps_cons ?_ ?_
            · rintro b a w' ⟨v154, ha, Q_HB, Q_HO155⟩ hb_ hon hoff
              refine ⟨_, rfl, fun K hK => ?_⟩
              have e23 : a.tmps[23]? = some (.string (t152 ++ t156)) := by rw [ha]; exact putSel_on (e := (6, 23, .string (t152 ++ t156))) 4 rfl rfl (hon 6 (by kernel_rfl)) rfl
              have e27 : a.tmps[27]? = some (.string t157) := by rw [ha]; exact putSel_on (e := (10, 27, .string t157)) 7 rfl rfl (hon 10 (by kernel_rfl)) rfl
              replace ha := Aside0.mk ha
              have HB := Aside0.mk Q_HB
              have HO155 := Aside0.mk (Q_HO155 (hon 4 (by kernel_rfl)))
              refine value_ (w1 := w') (v := .string ((t152 ++ t156) ++ t157)) (by rfl) rfl ?_ ?_
              · go_simp
                (try simp only [i64_w])
                try rfl
              refine hK.out _ _ ⟨v154, (by rw [ha.out]; exact putSel_upk 8 hb_ rfl rfl rfl), Q_HB, Q_HO155⟩
            refine steps_cons ?_ ?_
            · rintro b a w' ⟨v154, ha, Q_HB, Q_HO155⟩ hb_ hon hoff
              refine ⟨_, rfl, fun K hK => ?_⟩
              have e28 : a.tmps[28]? = some (.string ((t152 ++ t156) ++ t157)) := by rw [ha]; exact putSel_on (e := (11, 28, .string ((t152 ++ t156) ++ t157))) 8 rfl rfl (hon 11 (by kernel_rfl)) rfl
              replace ha := Aside0.mk ha
              have HB := Aside0.mk Q_HB
              have HO155 := Aside0.mk (Q_HO155 (hon 4 (by kernel_rfl)))
              refine value_ (w1 := w') (v := .string ((t152 ++ t156) ++ t157)) (by rfl) rfl ?_ ?_
              · go_simp
                (try simp only [i64_w])
                try rfl
              refine hK.out _ _ ⟨v154, (by rw [ha.out]; exact putSel_upk 9 hb_ rfl rfl rfl), Q_HB, Q_HO155⟩
            exact steps_nil
          rintro b a w21 hall ⟨v154, ha, Q_HB, Q_HO155⟩
          clear HB
          have hb1_ := hall 1 (by kernel_rfl)
          have hb2_ := hall 2 (by kernel_rfl)
          have hb4_ := hall 4 (by kernel_rfl)
          have hb5_ := hall 5 (by kernel_rfl)
          have hb6_ := hall 6 (by kernel_rfl)
          have hb7_ := hall 7 (by kernel_rfl)
          have hb9_ := hall 9 (by kernel_rfl)
          have hb10_ := hall 10 (by kernel_rfl)
          have hb11_ := hall 11 (by kernel_rfl)
          have hb12_ := hall 12 (by kernel_rfl)
          subst ha
          simp only [putSel, hb1_, hb2_, hb4_, hb5_, hb6_, hb7_, hb9_, hb10_, hb11_, hb12_, if_true, Act.put, List.setIfInBounds_toArray, List.set_cons_zero, List.set_cons_succ]
          have HB := Aside0.mk Q_HB
          clear Q_HB
          have HO155 := Aside0.mk (Q_HO155 hb4_)
          clear Q_HO155
          clear hall hb1_ hb2_ hb4_ hb5_ hb6_ hb7_ hb9_ hb10_ hb11_ hb12_
          try go_wp2
          go_ret
          exact ⟨by first | rfl | (simp [errW_none, errW_some] <;> rfl) | (simp [*, errW_none, errW_some] <;> rfl), by repeat (first | (with_reducible first | exact HB.out | apply below_alloc | apply pw_below_drewN | apply below_drew1) | exact HB.out)⟩
        · rw [if_neg c13] at H
          exact absurd H (by simp)
      · rw [if_neg c11] at H
        exact absurd H (by simp)
    · rw [if_neg c8] at H
      have c8b0 : ((Int.tmod a1 2) == 0) = false := beq_eq_false_iff_ne.mpr c8
      have c8b1 : ((Int.tmod a1 2) != 0) = true := bne_iff_ne.mpr c8
      replace H := Option.bind_eq_some_iff.mp H
      obtain ⟨t158, A220, H⟩ := H
      replace H : ((impl_digits.f k (([0] : List Int))).bind fun t162 => (if t158.size + t162.size ≤ 9223372036854775807 then ((strings_Repeat.f (⟨#[63]⟩ : ByteArray) (wrap64 (a2 - a0))).bind fun t163 => (if (t158 ++ t162).size + t163.size ≤ 9223372036854775807 then (some ((t158 ++ t162) ++ t163)) else (none))) else (none))) = some r := H
      have A22 := Aside0.mk A220
      clear A220
      obtain ⟨y159, hy159⟩ : ∃ y_ : List Int, y_ = (([0] : List Int)) := ⟨_, rfl⟩
      replace H : ((impl_digits.f k y159).bind fun t162 => (if t158.size + t162.size ≤ 9223372036854775807 then ((strings_Repeat.f (⟨#[63]⟩ : ByteArray) (wrap64 (a2 - a0))).bind fun t163 => (if (t158 ++ t162).size + t163.size ≤ 9223372036854775807 then (some ((t158 ++ t162) ++ t163)) else (none))) else (none))) = some r := by first | (rw [hy159]; with_reducible exact H) | (have H2_ := (Option.bind_some _ _).symm.trans H; rw [hy159]; with_reducible exact H2_) | (have H2_ := (Option.bind_some _ _).symm.trans H; with_reducible exact H2_) | with_reducible exact H | (rw [hy159]; exact H) | exact H
      have Ny159 := Aside0.mk hy159
      clear hy159
      replace H := Option.bind_eq_some_iff.mp H
      obtain ⟨t162, A230, H⟩ := H
      replace H : (if t158.size + t162.size ≤ 9223372036854775807 then ((strings_Repeat.f (⟨#[63]⟩ : ByteArray) (wrap64 (a2 - a0))).bind fun t163 => (if (t158 ++ t162).size + t163.size ≤ 9223372036854775807 then (some ((t158 ++ t162) ++ t163)) else (none))) else (none)) = some r := H
      have A23 := Aside0.mk A230
      clear A230
      by_cases c24 : t158.size + t162.size ≤ 9223372036854775807
      · rw [if_pos c24] at H
        have c24b0 := eq_true c24
        have c24b1 : decide (t158.size + t162.size ≤ 9223372036854775807) = true := decide_eq_true c24
        try have c24b2 : (9223372036854775807 < t158.size + t162.size) = False := eq_false (Nat.not_lt.2 c24)
        replace H := Option.bind_eq_some_iff.mp H
        obtain ⟨t163, A250, H⟩ := H
        replace H : (if (t158 ++ t162).size + t163.size ≤ 9223372036854775807 then (some ((t158 ++ t162) ++ t163)) else (none)) = some r := H
        have A25 := Aside0.mk A250
        clear A250
        by_cases c26 : (t158 ++ t162).size + t163.size ≤ 9223372036854775807
        · rw [if_pos c26] at H
          have c26b0 := eq_true c26
          have c26s : t158.size + t162.size + t163.size ≤ 9223372036854775807 := by rw [← ByteArray.size_append]; exact c26
          have c26b1 : decide ((t158 ++ t162).size + t163.size ≤ 9223372036854775807) = true := decide_eq_true c26
          try have c26b2 : (9223372036854775807 < (t158 ++ t162).size + t163.size) = False := eq_false (Nat.not_lt.2 c26)
          obtain rfl := Option.some.inj H
          go_enter Try.func26, Try.ntmps26
          try go_wp2
          have n0_ := Aside0.mk (below_drew1 HB.out)
          clear HB
          have HB := n0_
          clear n0_
          refine start_ (n := 13) (S := fun w' => True) (ds := []) #[false, false, false, false, false, false, false, false, false, false, false, false, false] (by kernel_rfl) rfl rfl trivial (fun hHeld => ?_); refine with_tabW impl_StairBox_1.tab6 impl_StairBox_1.bits6 (fun HT_ HW_ => ?_)
          generalize w.drew = w27 at HB hHeld ⊢
          refine pure_ (i := 0) (N := some 17) (v := ?_) (a' := ?_) #[true, false, false, false, false, false, false, false, false, false, false, false, false] rfl rfl (any_of HT_.out (by kernel_rfl)) (fun _ _ _ h => h) (Or.inl ⟨by rfl, ?_⟩) ?_ ?_
          rotate_left
          · intro w'
            go_simp
            with_reducible rfl
          rotate_left
          · simp only [Act.put, List.setIfInBounds_toArray, List.set_cons_zero, List.set_cons_succ, i64_w, i32_w]
            rfl
          refine pure_ (i := 3) (N := some 20) (v := ?_) (a' := ?_) #[true, false, false, true, false, false, false, false, false, false, false, false, false] rfl rfl (any_of HT_.out (by kernel_rfl)) (fun _ _ _ h => h) (Or.inl ⟨by rfl, ?_⟩) ?_ ?_
          rotate_left
          · intro w'
            go_simp
            with_reducible rfl
          rotate_left
          · simp only [Act.put, List.setIfInBounds_toArray, List.set_cons_zero, List.set_cons_succ, i64_w, i32_w]
            rfl
          refine pure_ (i := 8) (N := some 25) (v := ?_) (a' := ?_) #[true, false, false, true, false, false, false, false, true, false, false, false, false] rfl rfl (any_of HT_.out (by kernel_rfl)) (fun _ _ _ h => h) (Or.inl ⟨by rfl, ?_⟩) ?_ ?_
          rotate_left
          · intro w'
            go_simp
            with_reducible rfl
          rotate_left
          · simp only [Act.put, List.setIfInBounds_toArray, List.set_cons_zero, List.set_cons_succ, i64_w, i32_w]
            rfl
          refine inv_at [1, 2, 4, 5, 6, 7, 9, 10, 11, 12] (fun a0_ b a w' => ∃ (v160 : Value), a = putSel a0_ b [(1, 18, .int .i64 (wrap64 (a0 - 1))), (2, 19, .string t158), (4, 21, v160), (5, 22, .string t162), (6, 23, .string (t158 ++ t162)), (7, 24, .int .i64 a2), (9, 26, .int .i64 (wrap64 (a2 - a0))), (10, 27, .string t163), (11, 28, .string ((t158 ++ t162) ++ t163)), (12, 6, .string ((t158 ++ t162) ++ t163))] ∧ (Below w.heap.size w w') ∧ (b 4 = true → Kd.R (Kd.int .i64) 3 w' w.heap.size (fun _ => True) v160 y159)) HT_.out HW_.out (by kernel_rfl) (by kernel_rfl) ?_ ?_ ?_
          · exact ⟨.bool false, by simp only [putSel, Bool.false_eq_true, if_false], HB.out, fun h_ => absurd h_ (by decide)⟩
          · skip
            clear HB
            refine steps_cons ?_ ?_
            · rintro b a w' ⟨v160, ha, Q_HB, Q_HO161⟩ hb_ hon hoff
              refine ⟨_, rfl, fun K hK => ?_⟩
              have e17 : a.tmps[17]? = some (.int .i64 a0) := by rw [ha]; exact (putSel_off rfl).trans rfl
              replace ha := Aside0.mk ha
              have HB := Aside0.mk Q_HB
              refine value_ (w1 := w') (v := .int .i64 (wrap64 (a0 - 1))) (by rfl) rfl ?_ ?_
              · go_simp
                (try simp only [i64_w])
                try rfl
              refine hK.out _ _ ⟨v160, (by rw [ha.out]; exact putSel_upk 0 hb_ rfl rfl rfl), Q_HB, Q_HO161⟩
            refine steps_cons ?_ ?_
            · rintro b a w' ⟨v160, ha, Q_HB, Q_HO161⟩ hb_ hon hoff
              refine ⟨_, rfl, fun K hK => ?_⟩
              have e18 : a.tmps[18]? = some (.int .i64 (wrap64 (a0 - 1))) := by rw [ha]; exact putSel_on (e := (1, 18, .int .i64 (wrap64 (a0 - 1)))) 0 rfl rfl (hon 1 (by kernel_rfl)) rfl
              replace ha := Aside0.mk ha
              have HB := Aside0.mk Q_HB
              refine goes_ Try.func19 (by kernel_rfl) rfl #[.string (⟨#[63]⟩ : ByteArray), .int .i64 (wrap64 (a0 - 1))] (by rfl) rfl rfl (by first | (simp only [List.map_toArray, List.map_cons, List.map_nil, Act.eval, Array.getD_eq_getD_getElem?, Option.getD_some, e18]; done) | (simp only [List.map_toArray, List.map_cons, List.map_nil, Act.eval, Array.getD_eq_getD_getElem?, Option.getD_some, e18]; rfl)) ?_
              with_reducible refine (strings_Repeat.calls (⟨#[63]⟩ : ByteArray) (wrap64 (a0 - 1)) t158 _ A22.out).mono ?_
              rintro e w28 ⟨rfl, hb⟩
              refine ⟨_, rfl, ?_⟩
              have n0_ := Aside0.mk (below_step (by repeat (first | (with_reducible first | exact HB.out | apply below_alloc | apply pw_below_drewN | apply below_drew1) | exact HB.out)) hb)
              have z_HO161 := fun (h0_ : b 4 = true) => (show Kd.R (Kd.int .i64) 3 w28 w.heap.size (fun _ => True) v160 y159 from by first | exact (Kd.R_below (by (with_reducible repeat (first | apply Kd.R_alloc | apply Kd.R_drewN | apply Kd.R_drew)); exact (Q_HO161 h0_)) hb) | exact Kd.R_mono (Kd.R_below (by (with_reducible repeat (first | apply Kd.R_alloc | apply Kd.R_drewN | apply Kd.R_drew)); exact (Q_HO161 h0_)) hb) (fun _ h_ => by first | trivial | exact h_ | exact h_.1))
              clear HB
              have HB := n0_
              clear n0_
              (try clear hb)
              (try clear hb2)
              (try clear hk)
              (try clear hi)
              refine hK.out _ _ ⟨v160, (by rw [ha.out]; exact putSel_upk 1 hb_ rfl rfl rfl), (by repeat (first | (with_reducible first | exact HB.out | apply below_alloc | apply pw_below_drewN | apply below_drew1) | exact HB.out)), z_HO161⟩
            refine steps_cons ?_ ?_
            · rintro b a w' ⟨v160, ha, Q_HB, Q_HO161⟩ hb_ hon hoff
              refine ⟨_, rfl, fun K hK => ?_⟩
              have e20 : a.tmps[20]? = some (.int .i64 0) := by rw [ha]; exact (putSel_off rfl).trans rfl
              replace ha := Aside0.mk ha
              have HB := Aside0.mk Q_HB
              refine Kd.R_lit_step (Kd.int .i64) _ 3 ?hg (N := 21) ?hd (xs := ([0] : List Int)) (inner := [.int .i64 0]) (ok := fun _ => True) (okp := fun _ => True) ?hr ?hp (fun _ hk => hk) trivial (Below.refl _ _) (Nat.le_refl _) (by simp) ?_; (case hd => rfl); (case hg => rfl); (case hr => first | (go_simp; done) | (go_simp; rfl)); (case hp => exact (Reps.one (show Kd.M (Kd.int .i64) _ _ _ 0 [.int .i64 0] from rfl) (Reps.none _ _)))
              intro v160 w28 ho29 hb hg_ hnew_
              clear hg_ hnew_
              (first | rw [← Ny159.out] at ho29 | (simp only [Int.reduceToNat] at ho29; rw [← Ny159.out] at ho29))
              have n0_ := Aside0.mk (Kd.R_lower ho29 (below_size (by repeat (first | (with_reducible first | exact HB.out | apply below_alloc | apply pw_below_drewN | apply below_drew1) | exact HB.out))))
              have n1_ := Aside0.mk (below_step (by repeat (first | (with_reducible first | exact HB.out | apply below_alloc | apply pw_below_drewN | apply below_drew1) | exact HB.out)) hb)
              clear HB
              have HO161 := n0_
              have HB := n1_
              clear n0_ n1_
              clear hb ho29
              refine hK.out _ _ ⟨v160, (by rw [ha.out]; exact putSel_upk 2 hb_ rfl rfl rfl), (by repeat (first | (with_reducible first | exact HB.out | apply below_alloc | apply pw_below_drewN | apply below_drew1) | exact HB.out)), fun _ => (by (with_reducible repeat (first | apply Kd.R_alloc | apply Kd.R_drewN | apply Kd.R_drew)); exact HO161.out)⟩
            refine steps_cons ?_ ?_
            · rintro b a w' ⟨v160, ha, Q_HB, Q_HO161⟩ hb_ hon hoff
              refine ⟨_, rfl, fun K hK => ?_⟩
              have e21 : a.tmps[21]? = some (v160) := by rw [ha]; exact putSel_on (e := (4, 21, v160)) 2 rfl rfl (hon 4 (by kernel_rfl)) rfl
              replace ha := Aside0.mk ha
              have HB := Aside0.mk Q_HB
              have HO161 := Aside0.mk (Q_HO161 (hon 4 (by kernel_rfl)))
              obtain ⟨Ao32, co32, eo32⟩ := Kd.R_slice HO161.out
              (first | subst eo32 | (injection eo32 with f1_ f2_ f3_; have f4_ := f1_.symm; have f5_ := f3_.symm; clear f1_ f2_ f3_; subst f4_; subst f5_))
              refine goes_ Try.func27 (by kernel_rfl) rfl #[.slice Ao32 y159.length co32] (by rfl) rfl rfl (by first | (simp only [List.map_toArray, List.map_cons, List.map_nil, Act.eval, Array.getD_eq_getD_getElem?, Option.getD_some, e21]; done) | (simp only [List.map_toArray, List.map_cons, List.map_nil, Act.eval, Array.getD_eq_getD_getElem?, Option.getD_some, e21]; rfl)) ?_
              with_reducible refine (impl_digits.calls k _ _ y159 t162 _ ?side1 ?side2 A23.out).mono ?_
              (case side1 => repeat (first | exact (Kd.R_reads' HO161.out).2.2 | (with_reducible refine Kd.C_alloc ?_ _) | (with_reducible refine Kd.C_drewN ?_ _) | (with_reducible refine Kd.C_drew ?_)))
              (case side2 => exact (Kd.R_reads' HO161.out).2.1)
              rintro e w33 ⟨rfl, hb⟩
              refine ⟨_, rfl, ?_⟩
              have n0_ := Aside0.mk (Kd.R_below (by (with_reducible repeat (first | apply Kd.R_alloc | apply Kd.R_drewN | apply Kd.R_drew)); exact HO161.out) hb)
              have n1_ := Aside0.mk (below_step (by repeat (first | (with_reducible first | exact HB.out | apply below_alloc | apply pw_below_drewN | apply below_drew1) | exact HB.out)) hb)
              clear HO161
              clear HB
              have HO161 := n0_
              have HB := n1_
              clear n0_ n1_
              (try clear hb)
              (try clear hb2)
              (try clear hk)
              (try clear hi)
              refine hK.out _ _ ⟨.slice Ao32 y159.length co32, (by rw [ha.out]; exact putSel_upk 3 hb_ rfl rfl rfl), (by repeat (first | (with_reducible first | exact HB.out | apply below_alloc | apply pw_below_drewN | apply below_drew1) | exact HB.out)), fun _ => (by (with_reducible repeat (first | apply Kd.R_alloc | apply Kd.R_drewN | apply Kd.R_drew)); exact HO161.out)⟩
            refine steps_cons ?_ ?_
            · rintro b a w' ⟨v160, ha, Q_HB, Q_HO161⟩ hb_ hon hoff
              refine ⟨_, rfl, fun K hK => ?_⟩
              have e19 : a.tmps[19]? = some (.string t158) := by rw [ha]; exact putSel_on (e := (2, 19, .string t158)) 1 rfl rfl (hon 2 (by kernel_rfl)) rfl
              have e22 : a.tmps[22]? = some (.string t162) := by rw [ha]; exact putSel_on (e := (5, 22, .string t162)) 3 rfl rfl (hon 5 (by kernel_rfl)) rfl
              replace ha := Aside0.mk ha
              have HB := Aside0.mk Q_HB
              have HO161 := Aside0.mk (Q_HO161 (hon 4 (by kernel_rfl)))
              refine value_ (w1 := w') (v := .string (t158 ++ t162)) (by rfl) rfl ?_ ?_
              · go_simp
                (try simp only [i64_w])
                try rfl
              refine hK.out _ _ ⟨v160, (by rw [ha.out]; exact putSel_upk 4 hb_ rfl rfl rfl), Q_HB, Q_HO161⟩
            refine steps_cons ?_ ?_
            · rintro b a w' ⟨v160, ha, Q_HB, Q_HO161⟩ hb_ hon hoff
              refine ⟨_, rfl, fun K hK => ?_⟩
              have e2 : a.tmps[2]? = some (.pointer (some ⟨B_, 0, none⟩)) := by rw [ha]; exact (putSel_off rfl).trans rfl
              replace ha := Aside0.mk ha
              have HB := Aside0.mk Q_HB
              have hld : w'.cell? ⟨B_, 0, none⟩ = some (.int .i64 a2) := (HB.out.cell (p := ⟨B_, 0, none⟩) HLT.out).trans HC2.out
              refine value_ (w1 := w') (v := .int .i64 a2) (by rfl) rfl ?_ ?_
              · go_simp
                try rfl
              refine hK.out _ _ ⟨v160, (by rw [ha.out]; exact putSel_upk 5 hb_ rfl rfl rfl), Q_HB, Q_HO161⟩
            refine steps_cons ?_ ?_
            · rintro b a w' ⟨v160, ha, Q_HB, Q_HO161⟩ hb_ hon hoff
              refine ⟨_, rfl, fun K hK => ?_⟩
              have e24 : a.tmps[24]? = some (.int .i64 a2) := by rw [ha]; exact putSel_on (e := (7, 24, .int .i64 a2)) 5 rfl rfl (hon 7 (by kernel_rfl)) rfl
              have e25 : a.tmps[25]? = some (.int .i64 a0) := by rw [ha]; exact (putSel_off rfl).trans rfl
              replace ha := Aside0.mk ha
              have HB := Aside0.mk Q_HB
              refine value_ (w1 := w') (v := .int .i64 (wrap64 (a2 - a0))) (by rfl) rfl ?_ ?_
              · go_simp
                (try simp only [i64_w])
                try rfl
              refine hK.out _ _ ⟨v160, (by rw [ha.out]; exact putSel_upk 6 hb_ rfl rfl rfl), Q_HB, Q_HO161⟩
            refine steps_cons ?_ ?_
            · rintro b a w' ⟨v160, ha, Q_HB, Q_HO161⟩ hb_ hon hoff
              refine ⟨_, rfl, fun K hK => ?_⟩
              have e26 : a.tmps[26]? = some (.int .i64 (wrap64 (a2 - a0))) := by rw [ha]; exact putSel_on (e := (9, 26, .int .i64 (wrap64 (a2 - a0)))) 6 rfl rfl (hon 9 (by kernel_rfl)) rfl
              replace ha := Aside0.mk ha
              have HB := Aside0.mk Q_HB
              have HO161 := Aside0.mk (Q_HO161 (hon 4 (by kernel_rfl)))
              refine goes_ Try.func19 (by kernel_rfl) rfl #[.string (⟨#[63]⟩ : ByteArray), .int .i64 (wrap64 (a2 - a0))] (by rfl) rfl rfl (by first | (simp only [List.map_toArray, List.map_cons, List.map_nil, Act.eval, Array.getD_eq_getD_getElem?, Option.getD_some, e26]; done) | (simp only [List.map_toArray, List.map_cons, List.map_nil, Act.eval, Array.getD_eq_getD_getElem?, Option.getD_some, e26]; rfl)) ?_
              with_reducible refine (strings_Repeat.calls (⟨#[63]⟩ : ByteArray) (wrap64 (a2 - a0)) t163 _ A25.out).mono ?_
              rintro e w34 ⟨rfl, hb⟩
              refine ⟨_, rfl, ?_⟩
              have n0_ := Aside0.mk (Kd.R_below (by (with_reducible repeat (first | apply Kd.R_alloc | apply Kd.R_drewN | apply Kd.R_drew)); exact HO161.out) hb)
              have n1_ := Aside0.mk (below_step (by repeat (first | (with_reducible first | exact HB.out | apply below_alloc | apply pw_below_drewN | apply below_drew1) | exact HB.out)) hb)
              clear HO161
              clear HB
              have HO161 := n0_
              have HB := n1_
              clear n0_ n1_
              (try clear hb)
              (try clear hb2)
              (try clear hk)
              (try clear hi)
              refine hK.out _ _ ⟨v160, (by rw [ha.out]; exact putSel_upk 7 hb_ rfl rfl rfl), (by repeat (first | (with_reducible first | exact HB.out | apply below_alloc | apply pw_below_drewN | apply below_drew1) | exact HB.out)), fun _ => (by (with_reducible repeat (first | apply Kd.R_alloc | apply Kd.R_drewN | apply Kd.R_drew)); exact HO161.out)⟩
            refine steps_cons ?_ ?_
            · rintro b a w' ⟨v160, ha, Q_HB, Q_HO161⟩ hb_ hon hoff
              refine ⟨_, rfl, fun K hK => ?_⟩
              have e23 : a.tmps[23]? = some (.string (t158 ++ t162)) := by rw [ha]; exact putSel_on (e := (6, 23, .string (t158 ++ t162))) 4 rfl rfl (hon 6 (by kernel_rfl)) rfl
              have e27 : a.tmps[27]? = some (.string t163) := by rw [ha]; exact putSel_on (e := (10, 27, .string t163)) 7 rfl rfl (hon 10 (by kernel_rfl)) rfl
              replace ha := Aside0.mk ha
              have HB := Aside0.mk Q_HB
              have HO161 := Aside0.mk (Q_HO161 (hon 4 (by kernel_rfl)))
              refine value_ (w1 := w') (v := .string ((t158 ++ t162) ++ t163)) (by rfl) rfl ?_ ?_
              · go_simp
                (try simp only [i64_w])
                try rfl
              refine hK.out _ _ ⟨v160, (by rw [ha.out]; exact putSel_upk 8 hb_ rfl rfl rfl), Q_HB, Q_HO161⟩
            refine steps_cons ?_ ?_
            · rintro b a w' ⟨v160, ha, Q_HB, Q_HO161⟩ hb_ hon hoff
              refine ⟨_, rfl, fun K hK => ?_⟩
              have e28 : a.tmps[28]? = some (.string ((t158 ++ t162) ++ t163)) := by rw [ha]; exact putSel_on (e := (11, 28, .string ((t158 ++ t162) ++ t163))) 8 rfl rfl (hon 11 (by kernel_rfl)) rfl
              replace ha := Aside0.mk ha
              have HB := Aside0.mk Q_HB
              have HO161 := Aside0.mk (Q_HO161 (hon 4 (by kernel_rfl)))
              refine value_ (w1 := w') (v := .string ((t158 ++ t162) ++ t163)) (by rfl) rfl ?_ ?_
              · go_simp
                (try simp only [i64_w])
                try rfl
              refine hK.out _ _ ⟨v160, (by rw [ha.out]; exact putSel_upk 9 hb_ rfl rfl rfl), Q_HB, Q_HO161⟩
            exact steps_nil
          rintro b a w34 hall ⟨v160, ha, Q_HB, Q_HO161⟩
          clear HB
          have hb1_ := hall 1 (by kernel_rfl)
          have hb2_ := hall 2 (by kernel_rfl)
          have hb4_ := hall 4 (by kernel_rfl)
          have hb5_ := hall 5 (by kernel_rfl)
          have hb6_ := hall 6 (by kernel_rfl)
          have hb7_ := hall 7 (by kernel_rfl)
          have hb9_ := hall 9 (by kernel_rfl)
          have hb10_ := hall 10 (by kernel_rfl)
          have hb11_ := hall 11 (by kernel_rfl)
          have hb12_ := hall 12 (by kernel_rfl)
          subst ha
          simp only [putSel, hb1_, hb2_, hb4_, hb5_, hb6_, hb7_, hb9_, hb10_, hb11_, hb12_, if_true, Act.put, List.setIfInBounds_toArray, List.set_cons_zero, List.set_cons_succ]
          have HB := Aside0.mk Q_HB
          clear Q_HB
          have HO161 := Aside0.mk (Q_HO161 hb4_)
          clear Q_HO161
          clear hall hb1_ hb2_ hb4_ hb5_ hb6_ hb7_ hb9_ hb10_ hb11_ hb12_
          try go_wp2
          go_ret
          exact ⟨by first | rfl | (simp [errW_none, errW_some] <;> rfl) | (simp [*, errW_none, errW_some] <;> rfl), by repeat (first | (with_reducible first | exact HB.out | apply below_alloc | apply pw_below_drewN | apply below_drew1) | exact HB.out)⟩
        · rw [if_neg c26] at H
          exact absurd H (by simp)
      · rw [if_neg c24] at H
        exact absurd H (by simp)
def impl_StairBox.rule (x0 x1 : Int) (k : Nat) (x y : Int) : Option ByteArray := impl_StairBox_1.f k x y x0 x1
theorem impl_StairBox.rule_mono (x0 x1 : Int) : ∀ x y n, LeO (impl_StairBox.rule x0 x1 n x y) (impl_StairBox.rule x0 x1 (n + 1) x y) := fun x y n => impl_StairBox_1.mono x y x0 x1 n
theorem impl_StairBox.rule_calls (x0 x1 : Int) (k : Nat) (x y : Int) (b : ByteArray) (W : World) (B : Nat) (hB : B + 1 < W.heap.size) (h1 : W.cell? ⟨B, 0, none⟩ = some (.int .i64 x0)) (h2 : W.cell? ⟨B + 1, 0, none⟩ = some (.int .i64 x1))
    (h : impl_StairBox.rule x0 x1 k x y = some b) :
    Calls Try.prog 26 #[.int .i64 x, .int .i64 y, .pointer (some ⟨B, 0, none⟩), .pointer (some ⟨B + 1, 0, none⟩)] W fun e w' => e = .returned (.string b) ∧ Below W.heap.size W w' :=
  impl_StairBox_1.calls k x y x0 x1 b W B hB h1 h2 h
def impl_StairBox.f (k : Nat) (a0 a1 : Int) : Option (Int × Int × List ByteArray × Bool) := impl_boxOf.f (impl_StairBox.rule a0 a1) k a0 a1
theorem impl_StairBox.mono : ∀ a0 a1 k, LeO (impl_StairBox.f k a0 a1) (impl_StairBox.f (k + 1) a0 a1) := fun a0 a1 k => impl_boxOf.mono (impl_StairBox.rule_mono a0 a1) a0 a1 k
set_option maxHeartbeats 8000000 in
set_option maxRecDepth 100000 in
theorem impl_StairBox.calls (k : Nat) (a0 : Int) (a1 : Int) (r1 : Int) (r2 : Int) (r3 : List ByteArray) (r4 : Bool) (w : World) (h : impl_StairBox.f k a0 a1 = some (r1, r2, r3, r4)) :
    Calls Try.prog 14 #[.int .i64 a0, .int .i64 a1] w fun e w' => ∃ v2_ : Value, e = .returned (.tuple #[.agg #[.int .i64 r1, .int .i64 r2, v2_], .bool r4]) ∧ Kd.R Kd.string 9 w' w.heap.size (fun _ => True) v2_ r3 ∧ Below w.heap.size w w' := by
  have hmf : ∀ (fn : Fn) (first cap : Array Value) (w : World), (Instr.makeFunc fn first cap).run Try.prog w = .ok (.func fn first cap) w := fun _ _ _ _ => rfl
  have hu24 := Try.underlying24
  unfold impl_StairBox.f at h
  have hm0 : ((w.alloc (.cells #[.int .i64 a0] 3)).alloc (.cells #[.int .i64 a1] 3)).cell? ⟨w.heap.size, 0, none⟩ = some (.int .i64 a0) := by
    rw [World.cell?_alloc_past _ _ _ (by simp), World.cell?_alloc_at _ _ _ _ rfl]; rfl
  have hn0 : ((w.alloc (.cells #[.int .i64 a0] 3)).alloc (.cells #[.int .i64 a1] 3)).cell? ⟨w.heap.size + 1, 0, none⟩ = some (.int .i64 a1) := by
    rw [World.cell?_alloc_at _ _ _ _ (by simp)]; rfl
  have HB0 := Aside0.mk (show Below w.heap.size w ((w.alloc (.cells #[.int .i64 a0] 3)).alloc (.cells #[.int .i64 a1] 3)) from ((Below.refl _ _).alloc (Nat.le_refl _) _).alloc (by simp) _)
  have hC := fun (W : World) (hb : Below w.heap.size w W) (hsz : w.heap.size + 1 < W.heap.size) (h1 : W.cell? ⟨w.heap.size, 0, none⟩ = some (.int .i64 a0)) (h2 : W.cell? ⟨w.heap.size + 1, 0, none⟩ = some (.int .i64 a1)) =>
    impl_boxOf.calls 26 #[.pointer (some ⟨w.heap.size, 0, none⟩), .pointer (some ⟨w.heap.size + 1, 0, none⟩)] (Go.Proofs.enters_of Try.func26 (by kernel_rfl) rfl) (impl_StairBox.rule a0 a1) k a0 a1 r1 r2 r3 r4 W
      (fun j x y s W' hb' hj => impl_StairBox.rule_calls a0 a1 j x y s W' w.heap.size (Nat.lt_of_lt_of_le hsz hb'.size) ((hb'.cell (p := ⟨w.heap.size, 0, none⟩) (by show w.heap.size < W.heap.size; omega)).trans h1) ((hb'.cell (p := ⟨w.heap.size + 1, 0, none⟩) hsz).trans h2) hj) h
  have HC := Aside0.mk hC
  clear hC h
  go_enter Try.func14, Try.ntmps14
  go_wp2_with (first | ((with_reducible refine gate_dst (N := 4) rfl ?_); refine box_event ?hg (N := 4) ?hd (cs := #[.int .i64 0, .int .i64 0, .slice none 0 0]) (t := 24) ?hr ?_; (case hd => rfl); (case hg => rfl); (case hr => first | (go_simp; done) | (go_simp; rfl)); intro gb hg w5 hbox hb; have hm5 : w5.cell? ⟨w.heap.size, 0, none⟩ = some (.int .i64 a0) := (hb.cell (p := ⟨w.heap.size, 0, none⟩) (by simp; omega)).trans hm0; have hn5 : w5.cell? ⟨w.heap.size + 1, 0, none⟩ = some (.int .i64 a1) := (hb.cell (p := ⟨w.heap.size + 1, 0, none⟩) (by simp)).trans hn0; have HB5 := Aside0.mk (below_step HB0.out hb); have BK5 := Aside0.mk hbox; have GE := Aside0.mk (show w.heap.size ≤ gb by rw [hg]; simp; omega); have hs5 : Aside0 (w.heap.size + 1 < w5.heap.size) := ⟨Nat.lt_of_lt_of_le (by simp) hb.size⟩; clear hb hbox hg hm0 hn0 HB0) | (go_at_call 17; (with_reducible refine (HC.out _ HB5.out hs5.out hm5 hn5).mono ?_); rintro e w6 ⟨v2, rfl, ho, hb⟩; have HO6 := Aside0.mk (Kd.R_lower ho HB5.out.size); have HB6 := Aside0.mk (below_step HB5.out hb); have BK6 := Aside0.mk (blk_below (g := gb) (o := .cells #[.int .i64 0, .int .i64 0, .slice none 0 0] 24 (0, 0)) BK5.out hb); clear ho hb hm5 hn5 hs5 HB5 BK5 HC; obtain ⟨Ao, co, eo⟩ := Kd.R_slice HO6.out; subst eo; have hc0 : w6.cell? ⟨gb, 0, none⟩ = some (.int .i64 0) := (blk_cell BK6.out 0).trans rfl; have hc1 : w6.cell? ⟨gb, 1, none⟩ = some (.int .i64 0) := (blk_cell BK6.out 1).trans rfl; have hc2 : w6.cell? ⟨gb, 2, none⟩ = some (.slice none 0 0) := (blk_cell BK6.out 2).trans rfl; have hf0 := blk_frozen BK6.out 0; have hf1 := blk_frozen BK6.out 1; have hf2 := blk_frozen BK6.out 2))
  refine bodyPost_ret (results_ct rfl _ _ gb 24 #[.int .i64 r1, .int .i64 r2, .slice Ao r3.length co] (0, 0) _ rfl (by refine blk_put (cs := #[.int .i64 r1, .int .i64 r2, .slice none 0 0]) ?_ 2 _ rfl; refine blk_put (cs := #[.int .i64 r1, .int .i64 0, .slice none 0 0]) ?_ 1 _ rfl; refine blk_put (cs := #[.int .i64 0, .int .i64 0, .slice none 0 0]) ?_ 0 _ rfl; exact BK6.out) hu24 rfl (by kernel_rfl)) rfl ?_
  exact ⟨_, rfl, Kd.R_mono (Kd.R_far (p := ⟨gb, 2, none⟩) (Kd.R_far (p := ⟨gb, 1, none⟩) (Kd.R_far (p := ⟨gb, 0, none⟩) (Kd.R_types HO6.out BK6.out (by decide)) (fun _ hk => hk.2) (.int .i64 r1)) (fun _ hk => hk.2) (.int .i64 r2)) (fun _ hk => hk.2) (.slice Ao r3.length co)) (fun _ hk => trivial), by repeat (first | exact HB6.out | refine below_set ?_ GE.out)⟩

end Go.Proofs.Ytapkmmbeopbpjaa.PA
