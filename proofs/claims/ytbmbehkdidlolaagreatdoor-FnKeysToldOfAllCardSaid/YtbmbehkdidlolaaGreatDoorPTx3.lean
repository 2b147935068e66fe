-- written by a program of this session's (wip/tools), over the kit's print
import Derived.Test.YtbmbehkdidlolaaGreatDoorPTx0
import Derived.Test.YtbmbehkdidlolaaGreatDoorPTx1
import Derived.Test.YtbmbehkdidlolaaGreatDoorPTx2
-- squeezed
-- squeezed twice
namespace Go.Proofs.YtbmbehkdidlolaaGreatDoor.PT
open Go.RowKit Go.Proofs.YtbmbehkdidlolaaGreatDoorW.PrintWords Go.Proofs.YtbmbehkdidlolaaGreatDoorW.PrintLast Go.Proofs.YtbmbehkdidlolaaGreatDoorW.PrintMore
attribute [local go_sem] max2_int min2_int max_two min_two max_three min_three max_four min_four   -- for this text's walks alone
set_option linter.unusedVariables false
set_option linter.unusedSimpArgs false

/-! ### impl_longest: function 34 -/
mutual
def impl_longest.l0 : Nat → List (List Int) → List Int → Int → List Int → Option (Int)
 | 0, _, _, _, _ => none
 | k + 1, x0, x5, x6, x7 => if (x7.length : Int) > 0 then (if 0 < (x7.length : Int) then (if 0 ≤ (rd x7 0) then (if (rd x7 0) < (x5.length : Int) then (if (rd x7 0) < (x0.length : Int) then (impl_longest.l1 k x0 x5 (rd x5 (rd x7 0)) x7 (rd_L2 x0 (rd x7 0)) ((rd_L2 x0 (rd x7 0)).length : Int) 0) else (none)) else (none)) else (none)) else (none)) else (some (wrap64 (x6 - 1)))
def impl_longest.l1 : Nat → List (List Int) → List Int → Int → List Int → List Int → Int → Int → Option (Int)
 | 0, _, _, _, _, _, _, _ => none
 | k + 1, x0, x5, x6, x7, x34, x35, x36 => if x36 < x35 then (if 0 ≤ x36 then (if x36 < (x34.length : Int) then (if 0 ≤ (rd x34 x36) then (if (rd x34 x36) < (x5.length : Int) then (if (rd x5 (rd x34 x36)) = 0 then (if x7.length < 17592186044416 then (impl_longest.l1 k x0 (x5.set ((rd x34 x36) : Int).toNat (wrap64 (x6 + 1))) x6 (x7 ++ [rd x34 x36]) x34 x35 (wrap64 (x36 + 1))) else (none)) else (impl_longest.l1 k x0 x5 x6 x7 x34 x35 (wrap64 (x36 + 1)))) else (none)) else (none)) else (none)) else (none)) else (if 1 ≤ (x7.length : Int) then (impl_longest.l0 k x0 x5 x6 (x7.drop (1 : Int).toNat)) else (none))
end
def impl_longest.f (k : Nat) (l0 : List (List Int)) (a1 : Int) : Option (Int) := if 0 ≤ (l0.length : Int) then (if ((l0.length : Int) : Int).toNat ≤ 35184372088832 then ((some (List.replicate ((l0.length : Int) : Int).toNat 0 : List Int)).bind fun y139 => (if 0 ≤ a1 then (if a1 < (y139.length : Int) then (impl_longest.l0 k l0 (y139.set (a1 : Int).toNat 1) 1 (([a1] : List Int))) else (none)) else (none))) else (none)) else (none)
theorem impl_longest.mono_l : ∀ k, (∀ y0 y1 y2 y3, LeO (impl_longest.l0 k y0 y1 y2 y3) (impl_longest.l0 (k + 1) y0 y1 y2 y3)) ∧ (∀ y0 y1 y2 y3 y4 y5 y6, LeO (impl_longest.l1 k y0 y1 y2 y3 y4 y5 y6) (impl_longest.l1 (k + 1) y0 y1 y2 y3 y4 y5 y6))
 | 0 => ⟨fun _ _ _ _ r h => by simp [impl_longest.l0] at h, fun _ _ _ _ _ _ _ r h => by simp [impl_longest.l1] at h⟩
 | k + 1 => by
  obtain ⟨ih0, ih1⟩ := impl_longest.mono_l k
  refine ⟨?_, ?_⟩
  ·intro y0 y1 y2 y3
   unfold impl_longest.l0
   with_reducible repeat' first | exact ih0 _ _ _ _ | exact ih1 _ _ _ _ _ _ _ | exact LeO.refl _ | exact LeO.none _ | refine LeO.ite ?_ ?_ | refine LeO.bind ?_ (fun _ => ?_)
  ·intro y0 y1 y2 y3 y4 y5 y6
   unfold impl_longest.l1
   with_reducible repeat' first | exact ih0 _ _ _ _ | exact ih1 _ _ _ _ _ _ _ | exact LeO.refl _ | exact LeO.none _ | refine LeO.ite ?_ ?_ | refine LeO.bind ?_ (fun _ => ?_)
theorem impl_longest.mono : ∀ a0 a1 k, LeO (impl_longest.f k a0 a1) (impl_longest.f (k + 1) a0 a1) := by
 intro a0 a1 k
 obtain ⟨ih0, ih1⟩ := impl_longest.mono_l k
 unfold impl_longest.f
 with_reducible repeat' first | exact ih0 _ _ _ _ | exact ih1 _ _ _ _ _ _ _ | exact LeO.refl _ | exact LeO.none _ | refine LeO.ite ?_ ?_ | refine LeO.bind ?_ (fun _ => ?_)
set_option maxHeartbeats 8000000 in
set_option maxRecDepth 100000 in
theorem impl_longest.calls (k : Nat) (A0 : Option Addr) (c0 : Nat) (l0 : List (List Int)) (a1 : Int) (r : Int) (w : World) (hr0 : Kd.C (Kd.slice 3 (Kd.int .i64)) w A0 l0.length l0) (hc0 : l0.length ≤ c0) (h : impl_longest.f k l0 a1 = some r) :
  Calls Tryz.prog 34 #[.slice A0 l0.length c0, .int .i64 a1] w fun e w' => e = .returned (.int .i64 r) ∧ Below w.heap.size w w' := by
 have HR0 := aM hr0
 have HC0 := aM hc0
 clear hr0 hc0
 have HB := aM (Below.refl w.heap.size w)
 have H := h; clear h; unfold impl_longest.f at H
 replace H := iC H; obtain ⟨c3, H⟩ := H
 have c3b0 := eq_true c3
 have c3b1 := decide_eq_true c3
 clear c3
 replace H := iC H; obtain ⟨c4, H⟩ := H
 have c4b0 := eq_true c4
 have c4b1 := decide_eq_true c4
 clear c4
 replace H := jY H; obtain ⟨y139, Ny139, H⟩ := H
 replace H := iC H; obtain ⟨c5, H⟩ := H
 have c5b0 := decide_eq_true c5
 clear c5
 replace H := iC H; obtain ⟨c6, H⟩ := H
 have c6b0 := decide_eq_true c6
 clear c6
 obtain ⟨y142, Ny142, h_⟩ := yG (α := List Int) (y139.set (a1 : Int).toNat 1); rw [← h_] at H; clear h_
 obtain ⟨y143, Ny143, h_⟩ := yG (α := List Int) (([a1] : List Int)); rw [← h_] at H; clear h_
 have H' := aM H
 clear H
 go_enter Tryz.func34, Tryz.ntmps34
 go_wp2_with (first | ((with_reducible refine gate_dst (N := 12) rfl ?_); refine Kd.R_make (Kd.int .i64) _ 3 rfl (N := 12) rfl 36 _ _ rfl (l0.length : Int) rfl rfl Tryz.underlying36 (.int .i64 0) 8 info3 rfl (by decide) (by omega) 0 (ok := fun _ => True) (okp := fun _ => True) rfl (fun _ hk => hk) trivial (oD) (Nat.le_trans (Nat.mul_le_mul_right _ (oD : (l0.length : Int).toNat ≤ 35184372088832)) (by omega)) (Below.refl _ _) (Nat.le_refl _) ?_; intro v140 w8 ho9 hb hg_ hnew_; clear hg_ hnew_; rw [← Ny139.out] at ho9; have HO141 := aM (Kd.R_lower ho9 (below_size HB.out)); replace HB := aM (below_step HB.out hb); clear hb ho9; have p7 : 0 ≤ (a1 : Int) := oD; have q7 : (a1 : Int) < ((y139.length : Int) : Int) := oD; obtain ⟨go7, co7, eo7, gb7, gl7, cl7, HG7⟩ := Kd.R_form HO141.out (by omega); (first | cases eo7 | (injection eo7 with ea_ en_ ec_; (first | subst ea_ | (injection ea_ with ea_; subst ea_)); subst ec_; clear en_)); have GB7 := aM gb7; have GG7 := aM HG7; clear gb7 gl7 HG7; obtain ⟨hx7_0, hf7_0⟩ := Kd.R_celln 0 HO141.out (a1 : Int) p7 q7; replace p7 := eq_true p7; replace q7 := eq_true q7; obtain ⟨hy10_, hz10_⟩ := Kd.R_celln 0 HO141.out (a1 : Int) (oD) (oD); have HP10 := Kd.R_putg HO141.out (a1 : Int) 1) | ((with_reducible refine gate_store (t := 3) (p := 15) rfl ?_); refine store_event (t := 3) (p := 15) (v := ?vo_w11) (w1 := (w8.setCell ⟨go7, (a1 : Int).toNat, none⟩ (.int .i64 1))) ?hg ?ho ?hn ?hr ?_; (case ho => rfl); (case hg => rfl); (case hn => rfl); (case hr => go_simp); intro w11 hw; have hg : w8.grownBy w11 (some go7) := (by rw [hw]; exact HP10.2); have hp_ : Kd.R (Kd.int .i64) 3 w11 w.heap.size (fun _ => True) (.slice (some ⟨go7, 0, none⟩) y139.length co7) y142 := (by rw [hw, Ny142.out]; exact HP10.1); clear HP10; replace HO141 := aM (hp_); replace HB := aM ((by rw [hw]; exact below_set (HB.out) GB7.out : Below w.heap.size w w11)); clear hg hw hp_) | ((with_reducible refine gate_dst (N := 17) rfl ?_); refine Kd.R_lit (Kd.int .i64) _ 3 ?hg (N := 17) ?hd (xs := ([a1] : List Int)) (inner := [.int .i64 a1]) (ok := fun _ => True) (okp := fun _ => True) ?hr ?hp (fun _ hk => hk) trivial (Below.refl _ _) (Nat.le_refl _) (by simp) ?_; (case hd => rfl); (case hg => rfl); (case hr => go_simp); (case hp => exact (Reps.one (show Kd.M (Kd.int .i64) _ _ _ a1 [.int .i64 a1] from rfl) (Reps.none _ _))); intro v144 w12 ho13 hb hg_ hnew_; clear hg_ hnew_; rw [← Ny143.out] at ho13; have HO145 := aM (Kd.R_lower (Kd.R_new' ho13 (Kd.R_lt HO141.out)) (below_size HB.out)); replace HO141 := aM (Kd.R_elder' HO141.out (Kd.R_base ho13) hb); replace HB := aM (below_step HB.out hb); clear hb ho13))
 go_loopg [6, 7] k (fun kq v6 v7 w' => ∃ (x5_1 : List Int) (x6_1 : Int) (x7_1 : List Int), v6 = .int .i64 x6_1 ∧ Aside0 (impl_longest.l0 kq l0 x5_1 x6_1 x7_1 = some r) ∧ Aside0 (kq ≤ k) ∧ Aside0 (Kd.R (Kd.int .i64) 3 w' w.heap.size (fun k_ => some k_ ≠ (v7 : Value).ownBlock) (.slice (some ⟨go7, 0, none⟩) y139.length co7) x5_1) ∧ Aside0 (Kd.Q (Kd.int .i64) 3 w' w.heap.size (fun k_ => some k_ ≠ ((.slice (some ⟨go7, 0, none⟩) y139.length co7) : Value).ownBlock) v7 x7_1) ∧ Aside0 (Below w.heap.size w w'))
 case atStart => exact ⟨(y142), (1), (y143), rfl, H', ⟨Nat.le_refl _⟩, ⟨Kd.R_mono HO141.out (fun _ hk => hk.2)⟩, ⟨Kd.Q_of_R (Kd.R_mono HO145.out (fun _ hk => hk.2))⟩, HB⟩
 case round =>
  clear H'
  clear c3b0 c3b1 c4b0 c4b1 c5b0 c6b0 p7 q7 hx7_0
  obtain ⟨x5_1, x6_1, x7_1, rfl, HA, HK1, HO_5, HO_7, HB⟩ := hrel
  have hl5_1 := (Kd.R_reads' HO_5.out).1
  rw [hl5_1] at HO_5
  cases gk with
  | zero => exact absurd HA.out (by simp [impl_longest.l0])
  | succ k1 =>
   have H := HA.out
   clear HA
   simp only [impl_longest.l0] at H
   replace H := iO H; obtain ⟨c14, H⟩ | ⟨c14, H⟩ := H
   ·have c14b0 := decide_eq_true c14
    have c14b1 : decide (0 < x7_1.length) = true := decide_eq_true (by omega)
    clear c14
    replace H := iC H; obtain ⟨c15, H⟩ := H
    have c15b0 := decide_eq_true c15
    have c15b1 : decide (0 < x7_1.length) = true := decide_eq_true (by omega)
    clear c15
    replace H := iC H; obtain ⟨c16, H⟩ := H
    have c16b0 := decide_eq_true c16
    clear c16
    replace H := iC H; obtain ⟨c17, H⟩ := H
    have c17b0 := decide_eq_true c17
    clear c17
    replace H := iC H; obtain ⟨c18, H⟩ := H
    have c18b0 := decide_eq_true c18
    clear c18
    have H' := aM H
    clear H
    obtain ⟨Ao19, co19, eo19, _⟩ := Kd.Q_slice HO_7.out
    subst eo19
    have p146 : 0 ≤ (0 : Int) := (by omega)
    have q146 : 0 < (x7_1.length : Int) := oD; obtain ⟨ad146, e146, hx146_0⟩ := Kd.at_int (Kd.Q_reads' HO_7.out).2.2 0 p146 q146; cases e146
    have qi146 : (0 < x7_1.length) = True := eq_true (by omega)
    (try rw [show ((0 : Int)).toNat = 0 from rfl] at hx146_0)
    (try rw [Addr.add_zero'] at hx146_0)
    replace p146 := eq_true p146; replace q146 := eq_true q146; obtain ⟨hx147_0, p147, q147⟩ := aY (Kd.at_int (Kd.R_reads' HO_5.out).2.2 (rd x7_1 0))
    have p148 : 0 ≤ (0 : Int) := (by omega)
    have q148 : 0 < (x7_1.length : Int) := oD; obtain ⟨ad148, e148, hx148_0⟩ := Kd.at_int (Kd.Q_reads' HO_7.out).2.2 0 p148 q148; obtain rfl : ad146 = ad148 := (by injection e148)
    have qi148 : (0 < x7_1.length) = True := eq_true (by omega)
    (try rw [show ((0 : Int)).toNat = 0 from rfl] at hx148_0)
    (try rw [Addr.add_zero'] at hx148_0)
    replace p148 := eq_true p148; replace q148 := eq_true q148; have p149 : 0 ≤ ((rd x7_1 0) : Int) := oD; have q149 : (rd x7_1 0) < (l0.length : Int) := oD
    obtain ⟨ad149, A149_0, c149_0, e149, hx149_0, hl149_0, hi149_0⟩ := at_L2 HR0.out (rd x7_1 0) p149 q149
    cases e149
    replace hx149_0 := (HB.out.cell (World.block_lt_of_cell? w _ hx149_0)).trans hx149_0
    have HR149_0 := aM hi149_0
    have HC149_0 := aM hl149_0
    clear hi149_0 hl149_0; replace p149 := eq_true p149; replace q149 := eq_true q149
    go_wp2
    go_loopg [7, 36] k1 (fun kq v7 v36 w' => ∃ (x5_2 : List Int) (x7_2 : List Int) (x36_2 : Int), v36 = .int .i64 x36_2 ∧ Aside0 (impl_longest.l1 kq l0 x5_2 (rd x5_1 (rd x7_1 0)) x7_2 (rd_L2 l0 (rd x7_1 0)) ((rd_L2 l0 (rd x7_1 0)).length : Int) x36_2 = some r) ∧ Aside0 (kq ≤ k1) ∧ Aside0 (Kd.R (Kd.int .i64) 3 w' w.heap.size (fun k_ => some k_ ≠ (v7 : Value).ownBlock) (.slice (some ⟨go7, 0, none⟩) x5_1.length co7) x5_2) ∧ Aside0 (Kd.Q (Kd.int .i64) 3 w' w.heap.size (fun k_ => some k_ ≠ ((.slice (some ⟨go7, 0, none⟩) x5_1.length co7) : Value).ownBlock) v7 x7_2) ∧ Aside0 (Below w.heap.size w w'))
    case atStart => exact ⟨(x5_1), (x7_1), (0), rfl, H', ⟨Nat.le_refl _⟩, HO_5, ⟨by (try simp only [hl5_1]); (with_reducible repeat (first | apply Kd.Q_alloc | apply Kd.Q_drewN | apply Kd.Q_drew)); exact HO_7.out⟩, HB⟩
    case round =>
     clear H'
     clear c14b0 c14b1 c15b0 c15b1 c16b0 c17b0 c18b0 hx146_0 hx147_0 hx148_0 hx149_0 p146 p147 p148 p149 q146 q147 q148 q149
     obtain ⟨x5_2, x7_2, x36_2, rfl, HA, HK2, HO_5, HO_7, HB⟩ := hrel
     have hl5_2 := (Kd.R_reads' HO_5.out).1
     rw [hl5_2] at HO_5
     cases gk with
     | zero => exact absurd HA.out (by simp [impl_longest.l1])
     | succ k2 =>
      have H := HA.out
      clear HA
      simp only [impl_longest.l1] at H
      replace H := iO H; obtain ⟨c20, H⟩ | ⟨c20, H⟩ := H
      ·have c20b0 := decide_eq_true c20
       clear c20
       replace H := iC H; obtain ⟨c21, H⟩ := H
       have c21b0 := decide_eq_true c21
       clear c21
       replace H := iC H; obtain ⟨c22, H⟩ := H
       have c22b0 := decide_eq_true c22
       clear c22
       replace H := iC H; obtain ⟨c23, H⟩ := H
       have c23b0 := decide_eq_true c23
       clear c23
       replace H := iC H; obtain ⟨c24, H⟩ := H
       have c24b0 := decide_eq_true c24
       clear c24
       replace H := iO H; obtain ⟨c25, H⟩ | ⟨c25, H⟩ := H
       ·have c25b0 : ((rd x5_2 (rd (rd_L2 l0 (rd x7_1 0)) x36_2)) == 0) = true := beq_iff_eq.mpr c25
        have c25b1 : ((rd x5_2 (rd (rd_L2 l0 (rd x7_1 0)) x36_2)) != 0) = false := bne_eq_false_iff_eq.mpr c25
        clear c25
        obtain ⟨y152, Ny152, h_⟩ := yG (α := List Int) (x5_2.set ((rd (rd_L2 l0 (rd x7_1 0)) x36_2) : Int).toNat (wrap64 ((rd x5_1 (rd x7_1 0)) + 1))); rw [← h_] at H; clear h_
        replace H := iC H; obtain ⟨c27, H⟩ := H
        have LMc27 := aM c27
        clear c27
        obtain ⟨y153, Ny153, h_⟩ := yG (α := List Int) (x7_2 ++ [rd (rd_L2 l0 (rd x7_1 0)) x36_2]); rw [← h_] at H; clear h_
        have H' := aM H
        clear H; have p150 : 0 ≤ (x36_2 : Int) := oD; have q150 : x36_2 < ((rd_L2 l0 (rd x7_1 0)).length : Int) := oD; obtain ⟨ad150, e150, hx150_0⟩ := Kd.at_int HR149_0.out x36_2 p150 q150; cases e150
        replace hx150_0 := (HB.out.cell (World.block_lt_of_cell? w _ hx150_0)).trans hx150_0
        replace p150 := eq_true p150; replace q150 := eq_true q150; obtain ⟨hx151_0, p151, q151⟩ := aY (Kd.at_int (Kd.R_reads' HO_5.out).2.2 (rd (rd_L2 l0 (rd x7_1 0)) x36_2)); obtain ⟨hx26_0, hf26_0, p26, q26⟩ := aC (Kd.R_celln 0 HO_5.out ((rd (rd_L2 l0 (rd x7_1 0)) x36_2) : Int))
        have HP28 := Kd.R_putg HO_5.out ((rd (rd_L2 l0 (rd x7_1 0)) x36_2) : Int) (wrap64 ((rd x5_1 (rd x7_1 0)) + 1))
        go_wp2_with (first | ((with_reducible refine gate_store (t := 3) (p := 49) rfl ?_); refine store_event (t := 3) (p := 49) (v := ?vo_w29) (w1 := (wr.setCell ⟨go7, ((rd (rd_L2 l0 (rd x7_1 0)) x36_2) : Int).toNat, none⟩ (.int .i64 (wrap64 ((rd x5_1 (rd x7_1 0)) + 1))))) ?hg ?ho ?hn ?hr ?_; (case ho => rfl); (case hg => rfl); (case hn => rfl); (case hr => go_simp); intro w29 hw; have hg : wr.grownBy w29 (some go7) := (by rw [hw]; exact HP28.2); have hp_ : Kd.R (Kd.int .i64) 3 w29 w.heap.size (fun k_ => some k_ ≠ (u7 : Value).ownBlock) (.slice (some ⟨go7, 0, none⟩) x5_2.length co7) y152 := (by rw [hw, Ny152.out]; exact HP28.1); clear HP28; replace HO_5 := aM (hp_); replace HO_7 := aM (Kd.Q_after (v := (.slice (some ⟨go7, 0, none⟩) x5_2.length co7)) (v1 := (.slice (some ⟨go7, 0, none⟩) x5_2.length co7)) (ok := (fun _ => True)) (by (with_reducible repeat (first | apply Kd.Q_alloc | apply Kd.Q_drewN | apply Kd.Q_drew)); exact Kd.Q_mono HO_7.out (fun _ hk => ⟨trivial, hk⟩)) hg (.inl rfl)); replace HB := aM ((by rw [hw]; exact below_set (HB.out) GB7.out : Below w.heap.size w w29)); clear hg hw hp_) | ((with_reducible refine gate_builtin (b := .append) (xs := #[.tmp 50, .tmp 52]) rfl ?_); at_builtin; refine Kd.Q_append (Kd.int .i64) (w0 := w) w.heap.size rfl (.tmp 50) (.tmp 52) 36 3 (.int .i64 0) 8 rfl Tryz.underlying36 info3 rfl (by decide) (by omega) u7 x7_2 (rd (rd_L2 l0 (rd x7_1 0)) x36_2) [.int .i64 (rd (rd_L2 l0 (rd x7_1 0)) x36_2)] (fun k_ => some k_ ≠ (.slice (some ⟨go7, 0, none⟩) x5_2.length co7 : Value).ownBlock) (fun _ => False) rfl rfl ?aP (fun _ hk => hk.elim) ?aF ?aO ?aB ?aS ?aL ?_; (case aP => exact rfl); (case aB => exact HB.out); (case aF => exact (fun k_ hk => Kd.fresh' (Kd.R_lt HO_5.out) k_ hk)); (case aO => exact (by (with_reducible repeat (first | apply Kd.Q_alloc | apply Kd.Q_drewN | apply Kd.Q_drew)); exact Kd.Q_mono HO_7.out (fun _ hk => hk.2))); (case aS => exact (below_size HB.out)); (case aL => have := LMc27.out; omega); intro v154 w30 ho hb hg hat; rw [← Ny153.out] at ho; replace HO_5 := aM (Kd.R_after (ok := (fun _ => True)) (Kd.R_mono HO_5.out (fun _ hk => ⟨trivial, hk⟩)) hg hat); replace HB := aM (hb); have HO155 := aM (ho); clear ho hb hg hat))
        (try simp only [← hl5_2])
        go_roundg k2
        case measure => have := HK1.out; have := HK2.out; omega
        case rel => exact ⟨(y152), (y153), (wrap64 (x36_2 + 1)), rfl, H', ⟨by have := HK1.out; have := HK2.out; omega⟩, ⟨by (try simp only [hl5_1]); (try simp only [hl5_2]); (with_reducible repeat (first | apply rA | apply rN | apply rD)); exact Kd.R_mono HO_5.out (fun _ hk => hk.2)⟩, ⟨by (try simp only [hl5_1]); (try simp only [hl5_2]); (with_reducible repeat (first | apply Kd.Q_alloc | apply Kd.Q_drewN | apply Kd.Q_drew)); exact HO155.out⟩, ⟨bQ⟩⟩
       ·have c25b0 : ((rd x5_2 (rd (rd_L2 l0 (rd x7_1 0)) x36_2)) == 0) = false := beq_eq_false_iff_ne.mpr c25
        have c25b1 : ((rd x5_2 (rd (rd_L2 l0 (rd x7_1 0)) x36_2)) != 0) = true := bne_iff_ne.mpr c25
        have H' := aM H
        clear H; have p150 : 0 ≤ (x36_2 : Int) := oD; have q150 : x36_2 < ((rd_L2 l0 (rd x7_1 0)).length : Int) := oD; obtain ⟨ad150, e150, hx150_0⟩ := Kd.at_int HR149_0.out x36_2 p150 q150; cases e150
        replace hx150_0 := (HB.out.cell (World.block_lt_of_cell? w _ hx150_0)).trans hx150_0
        replace p150 := eq_true p150; replace q150 := eq_true q150; obtain ⟨hx151_0, p151, q151⟩ := aY (Kd.at_int (Kd.R_reads' HO_5.out).2.2 (rd (rd_L2 l0 (rd x7_1 0)) x36_2))
        go_wp2
        (try simp only [← hl5_2])
        go_roundg k2
        case measure => have := HK1.out; have := HK2.out; omega
        case rel => exact ⟨(x5_2), (x7_2), (wrap64 (x36_2 + 1)), rfl, H', ⟨by have := HK1.out; have := HK2.out; omega⟩, ⟨by (try simp only [hl5_1]); (try simp only [hl5_2]); (with_reducible repeat (first | apply rA | apply rN | apply rD)); exact HO_5.out⟩, ⟨by (try simp only [hl5_1]); (try simp only [hl5_2]); (with_reducible repeat (first | apply Kd.Q_alloc | apply Kd.Q_drewN | apply Kd.Q_drew)); exact HO_7.out⟩, ⟨bQ⟩⟩
      ·have c20b0 := decide_eq_false c20
       clear c20
       replace H := iT H; obtain ⟨c31b0, c31b1, H⟩ := H
       obtain ⟨y156, Ny156, h_⟩ := yG (α := List Int) (x7_2.drop (1 : Int).toNat); rw [← h_] at H; clear h_
       have H' := aM H
       clear H
       obtain ⟨Ao32, co32, eo32, _⟩ := Kd.Q_slice HO_7.out
       subst eo32
       have q33 : (1 : Int) ≤ ((x7_2.length : Int) : Int) := oD
       obtain ⟨i033, hi033, _, hsz33, _⟩ := info_parts info3
       have hcut33 := cut_from (P := Tryz.prog) 36 3 .i64 Tryz.underlying36 hi033 1 hsz33 Ao32 x7_2.length co32 1 (by omega) q33
       have hr33 := Kd.Q_drop (k := (1 : Int).toNat) HO_7.out (by omega)
       obtain ⟨A33, hA33⟩ : ∃ A1, A1 = (if co32 = (1 : Int).toNat then Ao32 else (Ao32 : Option Addr).map (·.add ((1 : Int).toNat * 1))) := ⟨_, rfl⟩
       obtain ⟨c33, hc33⟩ : ∃ c1, c1 = co32 - (1 : Int).toNat := ⟨_, rfl⟩
       have hy33 : y156.length = x7_2.length - (1 : Int).toNat := (by rw [Ny156.out, List.length_drop])
       rw [← Ny156.out] at hr33
       rw [← hy33, ← hA33, ← hc33] at hcut33
       replace hr33 : Kd.Q (Kd.int .i64) 3 wr w.heap.size (fun k_ => some k_ ≠ (.slice (some ⟨go7, 0, none⟩) x5_2.length co7 : Value).ownBlock) (.slice A33 y156.length c33) y156 := (by rw [hA33, hc33, hy33]; exact hr33)
       have HE33 : Aside0 ((Value.slice A33 y156.length c33).ownBlock = (.slice Ao32 x7_2.length co32 : Value).ownBlock) := ⟨by rw [hA33]; split <;> (cases (Ao32 : Option Addr) <;> rfl)⟩
       clear hy33 hi033 hsz33 HO_7 hA33 hc33
       have HO158 := aM hr33
       clear hr33; replace q33 := eq_true q33
       have n_ := aM (Kd.R_mono (ok' := fun k_ => some k_ ≠ (.slice A33 y156.length c33 : Value).ownBlock) HO_5.out (fun k_ hk => (by rw [HE33.out]; exact hk)))
       clear HO_5
       have HO_5 := n_
       clear n_
       go_wp2
       (try simp only [← hl5_1, ← hl5_2])
       go_roundg k2
       case measure => have := HK1.out; have := HK2.out; omega
       case rel => exact ⟨(x5_2), ((rd x5_1 (rd x7_1 0))), (y156), rfl, H', ⟨by have := HK1.out; have := HK2.out; omega⟩, ⟨by (try simp only [hl5_1]); (try simp only [hl5_2]); (with_reducible repeat (first | apply rA | apply rN | apply rD)); exact HO_5.out⟩, ⟨by (try simp only [hl5_1]); (try simp only [hl5_2]); (with_reducible repeat (first | apply Kd.Q_alloc | apply Kd.Q_drewN | apply Kd.Q_drew)); exact HO158.out⟩, ⟨bQ⟩⟩
   ·have c14b0 := decide_eq_false c14
    have c14b1 : decide (0 < x7_1.length) = false := decide_eq_false (by omega)
    clear c14
    obtain rfl := Option.some.inj H
    obtain ⟨Ao34, co34, eo34, _⟩ := Kd.Q_slice HO_7.out
    subst eo34
    go_wp2
    go_ret
    exact ⟨rfl, HB.out⟩
/-! ### impl_LongestByKeys: function 5 -/
def impl_LongestByKeys.l0 : Nat → List (List Int) → Int → Int → Int → Option (Int × Bool)
 | 0, _, _, _, _ => none
 | k + 1, x4, x5, x13, x14 => if x14 < x13 then ((impl_longest.f k x4 x14).bind fun t163 => (impl_LongestByKeys.l0 k x4 (mx x5 t163) x13 (wrap64 (x14 + 1)))) else (some (x5, true))
def impl_LongestByKeys.f (k : Nat) (l0 : List ByteArray) : Option (Int × Bool) := (impl_AreKeys.f k l0).bind fun t159 => (if t159 = true then ((impl_keyedLinks.f k l0).bind fun t160 => (impl_LongestByKeys.l0 k t160 0 (t160.length : Int) 0)) else (some (0, false)))
theorem impl_LongestByKeys.mono_l : ∀ k, (∀ y0 y1 y2 y3, LeO (impl_LongestByKeys.l0 k y0 y1 y2 y3) (impl_LongestByKeys.l0 (k + 1) y0 y1 y2 y3))
 | 0 => fun _ _ _ _ r h => by simp [impl_LongestByKeys.l0] at h
 | k + 1 => by
  have ih0 := impl_LongestByKeys.mono_l k
  ·intro y0 y1 y2 y3
   unfold impl_LongestByKeys.l0
   with_reducible repeat' first | exact ih0 _ _ _ _ | exact impl_AreKeys.mono _ _ | exact impl_keyedLinks.mono _ _ | exact impl_longest.mono _ _ _ | exact LeO.refl _ | exact LeO.none _ | refine LeO.ite ?_ ?_ | refine LeO.bind ?_ (fun _ => ?_)
theorem impl_LongestByKeys.mono : ∀ a0 k, LeO (impl_LongestByKeys.f k a0) (impl_LongestByKeys.f (k + 1) a0) := by
 intro a0 k
 have ih0 := impl_LongestByKeys.mono_l k
 unfold impl_LongestByKeys.f
 with_reducible repeat' first | exact ih0 _ _ _ _ | exact impl_AreKeys.mono _ _ | exact impl_keyedLinks.mono _ _ | exact impl_longest.mono _ _ _ | exact LeO.refl _ | exact LeO.none _ | refine LeO.ite ?_ ?_ | refine LeO.bind ?_ (fun _ => ?_)
set_option maxHeartbeats 8000000 in
set_option maxRecDepth 100000 in
theorem impl_LongestByKeys.calls (k : Nat) (A0 : Option Addr) (c0 : Nat) (l0 : List ByteArray) (r1 : Int) (r2 : Bool) (w : World) (hr0 : Kd.C Kd.string w A0 l0.length l0) (hc0 : l0.length ≤ c0) (h : impl_LongestByKeys.f k l0 = some (r1, r2)) :
  Calls Tryz.prog 5 #[.slice A0 l0.length c0] w fun e w' => e = .returned (.tuple #[.int .i64 r1, .bool r2]) ∧ Below w.heap.size w w' := by
 have HR0 := aM hr0
 have HC0 := aM hc0
 clear hr0 hc0
 have HB := aM (Below.refl w.heap.size w)
 have H := h; clear h; unfold impl_LongestByKeys.f at H
 replace H := jS H; obtain ⟨t159, A2, H⟩ := H
 by_cases c3 : t159 = true
 ·subst c3
  replace H := jT H
  replace H := jS H; obtain ⟨t160, A4, H⟩ := H
  have H' := aM H
  clear H
  go_enter Tryz.func5, Tryz.ntmps5
  go_wp2_with (first | ((with_reducible refine gC 18 rfl ?_); refine gL (some 8) Tryz.func18 #[.slice A0 l0.length c0] ?_; (with_reducible refine (impl_AreKeys.calls k _ _ l0 true _ ?side1 ?side2 A2.out).mono ?_); (case side1 => repeat (first | exact HR0.out | (with_reducible refine cA ?_ _) | (with_reducible refine cN ?_ _) | (with_reducible refine cD ?_))); (case side2 => exact HC0.out); rintro e w5 ⟨rfl, hb⟩; refine ⟨_, rfl, ?_⟩; replace HB := aM (below_step HB.out hb); (try clear hb)) | ((with_reducible refine gC 33 rfl ?_); refine gL (some 11) Tryz.func33 #[.slice A0 l0.length c0] ?_; (with_reducible refine (impl_keyedLinks.calls k _ _ l0 t160 _ ?side1 ?side2 A4.out).mono ?_); (case side1 => exact Kd.C_below HR0.out HB.out); (case side2 => exact HC0.out); rintro e w6 ⟨v161, rfl, ho0, hb⟩; refine ⟨_, rfl, ?_⟩; have HO162 := aM (Kd.S_lower ho0 (below_size HB.out)); replace HB := aM (below_step HB.out hb); (try clear hb); (try clear ho0); obtain ⟨Ao7, co7, eo7⟩ := Kd.S_slice HO162.out; subst eo7))
  go_loopg [5, 14] k (fun kq v5 v14 w' => ∃ (x5_1 : Int) (x14_1 : Int), v5 = .int .i64 x5_1 ∧ v14 = .int .i64 x14_1 ∧ Aside0 (impl_LongestByKeys.l0 kq t160 x5_1 (t160.length : Int) x14_1 = some (r1, r2)) ∧ Aside0 (kq ≤ k) ∧ Aside0 (Kd.S (Kd.slice 3 (Kd.int .i64)) 36 w' w.heap.size (fun _ => True) (.slice Ao7 t160.length co7) t160) ∧ Aside0 (Below w.heap.size w w'))
  case atStart => exact ⟨(0), (0), rfl, rfl, H', ⟨Nat.le_refl _⟩, ⟨by (with_reducible repeat (first | apply Kd.S_alloc | apply Kd.S_drewN | apply Kd.S_drew)); exact HO162.out⟩, HB⟩
  case round =>
   clear H'
   obtain ⟨x5_1, x14_1, rfl, rfl, HA, HK1, HO_4, HB⟩ := hrel
   cases gk with
   | zero => exact absurd HA.out (by simp [impl_LongestByKeys.l0])
   | succ k1 =>
    have H := HA.out
    clear HA
    simp only [impl_LongestByKeys.l0] at H
    replace H := iE H; obtain ⟨c8b0, H⟩ | ⟨c8b0, H⟩ := H
    ·replace H := jS H; obtain ⟨t163, A9, H⟩ := H
     obtain ⟨ji10, hji10⟩ : ∃ j_ : Int, (mx x5_1 t163) = j_ := ⟨_, rfl⟩
     replace H : (impl_LongestByKeys.l0 k1 t160 ji10 (t160.length : Int) (wrap64 (x14_1 + 1))) = some (r1, r2) := by first | (rw [hji10] at H; exact H) | (simp only [hji10] at H ⊢; exact H)
     (try rw [hji10] at A9)
     have hji10_ : (if x5_1 < t163 then t163 else x5_1) = ji10 := hji10
     have H' := aM H
     clear H
     go_wp2_with (first | ((with_reducible refine gC 34 rfl ?_); refine gL (some 20) Tryz.func34 #[.slice Ao7 t160.length co7, .int .i64 x14_1] ?_; (with_reducible refine (impl_longest.calls k1 _ _ t160 x14_1 t163 _ ?side1 ?side2 A9.out).mono ?_); (case side1 => repeat (first | exact (Kd.S_reads' HO_4.out).2.2 | (with_reducible refine cA ?_ _) | (with_reducible refine cN ?_ _) | (with_reducible refine cD ?_))); (case side2 => exact (Kd.S_reads' HO_4.out).2.1); rintro e w11 ⟨rfl, hb⟩; refine ⟨_, rfl, ?_⟩; replace HO_4 := aM (Kd.S_below (by (with_reducible repeat (first | apply Kd.S_alloc | apply Kd.S_drewN | apply Kd.S_drew)); exact HO_4.out) hb); replace HB := aM (below_step HB.out hb); (try clear hb)))
     go_roundg k1
     case measure => have := HK1.out; omega
     case rel => exact ⟨(ji10), (wrap64 (x14_1 + 1)), (by first | rfl | (simp; done) | (simp only [← hji10] <;> (first | rfl | simp)) | (simp [*]; done)), rfl, H', ⟨by have := HK1.out; omega⟩, ⟨by (with_reducible repeat (first | apply Kd.S_alloc | apply Kd.S_drewN | apply Kd.S_drew)); exact HO_4.out⟩, HB⟩
    ·simp only [Option.some.injEq, Prod.mk.injEq] at H
     obtain ⟨rfl, rfl⟩ := H
     go_wp2
     go_ret2
     exact ⟨rfl, HB.out⟩
 ·replace c3 := Bool.eq_false_iff.mpr c3
  subst c3
  replace H := jF H
  simp only [Option.some.injEq, Prod.mk.injEq] at H
  obtain ⟨rfl, rfl⟩ := H
  go_enter Tryz.func5, Tryz.ntmps5
  go_wp2_with (first | ((with_reducible refine gC 18 rfl ?_); refine gL (some 8) Tryz.func18 #[.slice A0 l0.length c0] ?_; (with_reducible refine (impl_AreKeys.calls k _ _ l0 false _ ?side1 ?side2 A2.out).mono ?_); (case side1 => repeat (first | exact HR0.out | (with_reducible refine cA ?_ _) | (with_reducible refine cN ?_ _) | (with_reducible refine cD ?_))); (case side2 => exact HC0.out); rintro e w12 ⟨rfl, hb⟩; refine ⟨_, rfl, ?_⟩; replace HB := aM (below_step HB.out hb); (try clear hb)))
  go_ret2
  exact ⟨rfl, HB.out⟩

/-! ### spec_l1In: function 69 -/
def spec_l1In.f (a0 : Int) (a1 : Int) (a2 : Int) : Option (Bool) := if a0 ≥ a1 then (some (decide (a0 ≤ a2))) else (some false)
set_option maxHeartbeats 8000000 in
set_option maxRecDepth 100000 in
theorem spec_l1In.calls (a0 : Int) (a1 : Int) (a2 : Int) (r : Bool) (w : World) (h : spec_l1In.f a0 a1 a2 = some r) :
  Calls Tryz.prog 69 #[.int .i64 a0, .int .i64 a1, .int .i64 a2] w fun e w' => e = .returned (.bool r) ∧ Drawn0 w w' := by
 have H := h; clear h; unfold spec_l1In.f at H
 replace H := iE H; obtain ⟨c4b0, H⟩ | ⟨c4b0, H⟩ := H
 ·obtain rfl := Option.some.inj H
  go_enter Tryz.func69, Tryz.ntmps69
  go_wp2
  go_ret
  exact ⟨rfl, by repeat (first | exact Drawn0.refl _ | apply Drawn0.step)⟩
 ·obtain rfl := Option.some.inj H
  go_enter Tryz.func69, Tryz.ntmps69
  go_wp2
  go_ret
  exact ⟨rfl, by repeat (first | exact Drawn0.refl _ | apply Drawn0.step)⟩

end Go.Proofs.YtbmbehkdidlolaaGreatDoor.PT
