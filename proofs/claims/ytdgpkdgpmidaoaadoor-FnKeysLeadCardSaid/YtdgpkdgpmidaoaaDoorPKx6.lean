-- written by a program of this session's (wip/tools), over the kit's print
import Derived.Test.YtdgpkdgpmidaoaaDoorPKx0
-- squeezed
-- squeezed twice
namespace Go.Proofs.YtdgpkdgpmidaoaaDoor.PK
open Go.RowKit Go.Proofs.YtdgpkdgpmidaoaaDoorW.PrintWords Go.Proofs.YtdgpkdgpmidaoaaDoorW.PrintLast Go.Proofs.YtdgpkdgpmidaoaaDoorW.PrintMore
attribute [local go_sem] max2_int min2_int max_two min_two max_three min_three max_four min_four   -- for this text's walks alone
set_option linter.unusedVariables false
set_option linter.unusedSimpArgs false

/-! ### spec_keFits: function 48 (told by hand) -/
/-- spec.keFits ranges over a string; at strings of ASCII bytes. -/
def spec_keFits.l0 : Nat → ByteArray → ByteArray → Nat → Option Bool
 | 0, _, _, _ => none
 | k + 1, s, t, i => if i < s.size then (if (s.data.toList.getD i 0).toNat < 128 then (if bt s (i : Int) = 63 then spec_keFits.l0 k s t (i + 1) else (if i < t.size then (if bt s (i : Int) = bt t (i : Int) then spec_keFits.l0 k s t (i + 1) else some false) else none)) else none) else some true
def spec_keFits.f (k : Nat) (a0 a1 : ByteArray) : Option Bool := if a0.size ≤ 4611686018427387904 then spec_keFits.l0 k a0 a1 0 else none
theorem spec_keFits.mono_l : ∀ k y0 y1 y2, LeO (spec_keFits.l0 k y0 y1 y2) (spec_keFits.l0 (k + 1) y0 y1 y2)
 | 0, _, _, _ => fun r h => by simp [spec_keFits.l0] at h
 | k + 1, y0, y1, y2 => by
  have ih := spec_keFits.mono_l k
  unfold spec_keFits.l0
  exact LeO.ite (LeO.ite (LeO.ite (ih _ _ _) (LeO.ite (LeO.ite (ih _ _ _) (LeO.refl _)) (LeO.none _))) (LeO.none _)) (LeO.refl _)
theorem spec_keFits.mono : ∀ a0 a1 k, LeO (spec_keFits.f k a0 a1) (spec_keFits.f (k + 1) a0 a1) := by
 intro a0 a1 k
 unfold spec_keFits.f
 exact LeO.ite (spec_keFits.mono_l k _ _ _) (LeO.refl _)
set_option maxHeartbeats 8000000 in
set_option maxRecDepth 100000 in
theorem spec_keFits.calls (k : Nat) (a0 : ByteArray) (a1 : ByteArray) (r : Bool) (w : World) (h : spec_keFits.f k a0 a1 = some r) :
  Calls Tryd.prog 48 #[.string a0, .string a1] w fun e w' => e = .returned (.bool r) ∧ Below w.heap.size w w' := by
 unfold spec_keFits.f at h
 by_cases c0 : ¬ (a0.size ≤ 4611686018427387904)
 ·rw [if_neg c0] at h; exact absurd h (by simp)
 replace c0 := Decidable.not_not.mp c0
 rw [if_pos c0] at h
 have H' := aM h
 clear h
 have C0 := aM c0
 clear c0
 have hb0 := aM (show Below w.heap.size w (w.iter a0 0) from (Below.refl _ w).alloc (Nat.le_refl _) _)
 have hi0 := aM (World.iter_heap w a0 0)
 go_enter Tryd.func48, Tryd.ntmps48
 go_wp2
 go_loopg [] k (fun kq w' => ∃ (i : Nat), Aside0 (spec_keFits.l0 kq a0 a1 i = some r) ∧ Aside0 (kq ≤ k) ∧ Aside0 (w'.heap[w.heap.size]? = some (.stringIter a0 i)) ∧ Aside0 (Below w.heap.size w w'))
 case atStart => exact ⟨0, H', ⟨Nat.le_refl _⟩, hi0, hb0⟩
 case round =>
  clear H' hb0 hi0
  obtain ⟨i, HA, HK1, HI, HB⟩ := hrel
  rename World => wr
  cases gk with
  | zero => exact absurd HA.out (by simp [spec_keFits.l0])
  | succ k1 =>
   have H := HA.out
   clear HA
   simp only [spec_keFits.l0] at H
   by_cases c1 : i < a0.size
   ·rw [if_pos c1] at H
    by_cases c2 : (a0.data.toList.getD i 0).toNat < 128
    ·rw [if_pos c2] at H
     have h128 : (a0[i]'c1).toNat < 128 := by
      have e : a0.data.toList.getD i 0 = a0[i]'c1 := by
       have hl : i < a0.data.toList.length := by rw [Array.length_toList]; exact c1
       simp [List.getD, List.getElem?_eq_getElem hl]
       rfl
      rw [← e]; exact c2
     have hnext : ∀ ty, (Instr.next (.pointer (some ⟨w.heap.size, 0, none⟩)) true ty).run Tryd.prog wr = _ := fun ty => Lib.run_next_ascii_at wr w.heap.size a0 i ty HI.out c1 h128
     have hk1 := Lib.iterAt_heap wr w.heap.size a0 i (i + 1) HI.out
     have hnx1 : Below w.heap.size w (wr.iterAt w.heap.size a0 (i + 1)) := Lib.below_iterAt HB.out (Nat.le_refl _) a0 (i + 1)
     generalize wr.iterAt w.heap.size a0 (i + 1) = W1 at hnext hk1 hnx1
     clear HI HB
     have HI := aM hk1
     have HB := aM hnx1
     clear hk1 hnx1
     have hx6 : ∀ h : i < a0.size, ((a0[i]'h).toNat : Int) = bt a0 (i : Int) := fun h => bt_at a0 (i : Int) h
     have p6 : (0 ≤ (i : Int)) = True := eq_true (Int.natCast_nonneg i)
     have q6 : ((i : Int) < (a0.size : Int)) = True := eq_true (Int.ofNat_lt.2 c1)
     have q7 : (i < a0.size) = True := eq_true c1
     by_cases c7 : bt a0 (i : Int) = 63
     ·rw [if_pos c7] at H
      have c7b0 : (bt a0 (i : Int) == 63) = true := beq_iff_eq.mpr c7
      have c7b1 : (bt a0 (i : Int) != 63) = false := bne_eq_false_iff_eq.mpr c7
      clear c7
      have H' := aM H
      clear H
      go_wp2
      repeat (go_quiet (fail); try go_wp2)
      go_roundg k1
      case measure => have := HK1.out; omega
      case rel => exact ⟨i + 1, H', ⟨by have := HK1.out; omega⟩, ⟨by first | exact HI.out | exact blk_drew HI.out⟩, ⟨by repeat (first | exact HB.out | apply pw_below_drewN | apply below_drew1)⟩⟩
     ·rw [if_neg c7] at H
      have c7b0 : (bt a0 (i : Int) == 63) = false := beq_eq_false_iff_ne.mpr c7
      have c7b1 : (bt a0 (i : Int) != 63) = true := bne_iff_ne.mpr c7
      clear c7
      by_cases c9 : i < a1.size
      ·rw [if_pos c9] at H
       have hx8 : ∀ h : i < a1.size, ((a1[i]'h).toNat : Int) = bt a1 (i : Int) := fun h => bt_at a1 (i : Int) h
       have q8 : ((i : Int) < (a1.size : Int)) = True := eq_true (Int.ofNat_lt.2 c9)
       have q9 : (i < a1.size) = True := eq_true c9
       clear c9
       by_cases c11 : bt a0 (i : Int) = bt a1 (i : Int)
       ·rw [if_pos c11] at H
        have c11b0 : (bt a0 (i : Int) == bt a1 (i : Int)) = true := beq_iff_eq.mpr c11
        have c11b1 : (bt a0 (i : Int) != bt a1 (i : Int)) = false := bne_eq_false_iff_eq.mpr c11
        clear c11
        have H' := aM H
        clear H
        go_wp2
        repeat (go_quiet (fail); try go_wp2)
        go_roundg k1
        case measure => have := HK1.out; omega
        case rel => exact ⟨i + 1, H', ⟨by have := HK1.out; omega⟩, ⟨by first | exact HI.out | exact blk_drew HI.out⟩, ⟨by repeat (first | exact HB.out | apply pw_below_drewN | apply below_drew1)⟩⟩
       ·rw [if_neg c11] at H
        have c11b0 : (bt a0 (i : Int) == bt a1 (i : Int)) = false := beq_eq_false_iff_ne.mpr c11
        have c11b1 : (bt a0 (i : Int) != bt a1 (i : Int)) = true := bne_iff_ne.mpr c11
        clear c11
        obtain rfl := Option.some.inj H
        clear H
        go_wp2
        repeat (go_quiet (fail); try go_wp2)
        go_ret
        exact ⟨rfl, by repeat (first | exact HB.out | apply pw_below_drewN | apply below_drew1)⟩
      ·rw [if_neg c9] at H
       exact absurd H (by simp)
    ·rw [if_neg c2] at H
     exact absurd H (by simp)
   ·rw [if_neg c1] at H
    have hnext : ∀ ty, (Instr.next (.pointer (some ⟨w.heap.size, 0, none⟩)) true ty).run Tryd.prog wr = _ := fun ty => Lib.run_next_end_at wr w.heap.size a0 i ty HI.out c1
    obtain rfl := Option.some.inj H
    clear H
    go_wp2
    go_ret
    exact ⟨rfl, HB.out⟩

/-! ### spec_keMoves: function 36 -/
def spec_keMoves.l0 : Nat → ByteArray → List Int → List ByteArray → Int → Int → Option (List Int)
 | 0, _, _, _, _, _ => none
 | k + 1, x1, x5, x8, x9, x10 => if x10 < x9 then (if 0 ≤ x10 then (if x10 < (x8.length : Int) then ((spec_keFits.f k (rdOf ByteArray.empty x8 x10) x1).bind fun t240 => (if t240 = true then (if x5.length < 17592186044416 then (spec_keMoves.l0 k x1 (x5 ++ [x10]) x8 x9 (wrap64 (x10 + 1))) else (none)) else (spec_keMoves.l0 k x1 x5 x8 x9 (wrap64 (x10 + 1))))) else (none)) else (none)) else (some x5)
def spec_keMoves.f (k : Nat) (l0 : List ByteArray) (a1 : ByteArray) : Option (List Int) := spec_keMoves.l0 k a1 ([] : List Int) l0 (l0.length : Int) 0
theorem spec_keMoves.mono_l : ∀ k, (∀ y0 y1 y2 y3 y4, LeO (spec_keMoves.l0 k y0 y1 y2 y3 y4) (spec_keMoves.l0 (k + 1) y0 y1 y2 y3 y4))
 | 0 => fun _ _ _ _ _ r h => by simp [spec_keMoves.l0] at h
 | k + 1 => by
  have ih0 := spec_keMoves.mono_l k
  ·intro y0 y1 y2 y3 y4
   unfold spec_keMoves.l0
   repeat' first
   | (with_reducible exact ih0 _ _ _ _ _)
   | (with_reducible exact spec_keFits.mono _ _ _)
   | (with_reducible exact LeO.refl _)
   | (with_reducible exact LeO.none _)
   | (with_reducible refine LeO.ite ?_ ?_)
   | (with_reducible refine LeO.bind ?_ (fun _ => ?_))
   | exact ih0 _ _ _ _ _
   | exact spec_keFits.mono _ _ _
   | exact LeO.none _
   | refine LeO.ite ?_ ?_
   | refine LeO.bind ?_ (fun _ => ?_)
theorem spec_keMoves.mono : ∀ a0 a1 k, LeO (spec_keMoves.f k a0 a1) (spec_keMoves.f (k + 1) a0 a1) := by
 intro a0 a1 k
 have ih0 := spec_keMoves.mono_l k
 unfold spec_keMoves.f
 repeat' first
   | (with_reducible exact ih0 _ _ _ _ _)
   | (with_reducible exact spec_keFits.mono _ _ _)
   | (with_reducible exact LeO.refl _)
   | (with_reducible exact LeO.none _)
   | (with_reducible refine LeO.ite ?_ ?_)
   | (with_reducible refine LeO.bind ?_ (fun _ => ?_))
   | exact ih0 _ _ _ _ _
   | exact spec_keFits.mono _ _ _
   | exact LeO.none _
   | refine LeO.ite ?_ ?_
   | refine LeO.bind ?_ (fun _ => ?_)
set_option maxHeartbeats 8000000 in
set_option maxRecDepth 100000 in
theorem spec_keMoves.calls (k : Nat) (A0 : Option Addr) (c0 : Nat) (l0 : List ByteArray) (a1 : ByteArray) (r : List Int) (w : World) (hr0 : Kd.C Kd.string w A0 l0.length l0) (hc0 : l0.length ≤ c0) (h : spec_keMoves.f k l0 a1 = some r) :
  Calls Tryd.prog 36 #[.slice A0 l0.length c0, .string a1] w fun e w' => ∃ v0_ : Value, e = .returned (v0_) ∧ Kd.R (Kd.int .i64) 3 w' w.heap.size (fun _ => True) v0_ r ∧ Below w.heap.size w w' := by
 have HR0 := aM hr0
 have HC0 := aM hc0
 clear hr0 hc0
 have HB := aM (Below.refl w.heap.size w)
 have H : (spec_keMoves.l0 k a1 ([] : List Int) l0 (l0.length : Int) 0) = some r := h
 clear h
 have H' := aM H
 clear H
 go_enter Tryd.func36, Tryd.ntmps36
 go_wp2
 go_loopg [5, 10] k (fun kq v5 v10 w' => ∃ (x5_1 : List Int) (x10_1 : Int), v10 = .int .i64 x10_1 ∧ Aside0 (spec_keMoves.l0 kq a1 x5_1 l0 (l0.length : Int) x10_1 = some r) ∧ Aside0 (kq ≤ k) ∧ Aside0 (Kd.R (Kd.int .i64) 3 w' w.heap.size (fun _ => True) v5 x5_1) ∧ Aside0 (Below w.heap.size w w'))
 case atStart => exact ⟨(([] : List Int)), (0), (by first | rfl | (simp; done) | (simp [*]; done)), H', ⟨Nat.le_refl _⟩, ⟨by first | exact Kd.R_nil _ _ _ _ _ | exact Kd.N_nil _ _ _ _ _ | exact Kd.V_nil _ _ _ _ _ | exact Kd.Q_nil _ _ _ _ _ | exact Kd.S_nil _ _ _ _ _⟩, ⟨by repeat (first | (with_reducible first | exact HB.out | apply bA | apply bN | apply bD) | exact HB.out)⟩⟩
 case round =>
  clear H'
  try clear p2
  obtain ⟨x5_1, x10_1, rfl, HA, HK1, HO_5, HB⟩ := hrel
  cases gk with
  | zero => exact absurd HA.out (by simp [spec_keMoves.l0])
  | succ k1 =>
   have H := HA.out
   clear HA
   simp only [spec_keMoves.l0] at H
   by_cases c3 : x10_1 < (l0.length : Int)
   ·rw [if_pos c3] at H
    have c3b0 : decide (x10_1 < (l0.length : Int)) = true := decide_eq_true c3
    clear c3
    by_cases c4 : 0 ≤ x10_1
    ·rw [if_pos c4] at H
     have c4b0 : decide (0 ≤ x10_1) = true := decide_eq_true c4
     clear c4
     by_cases c5 : x10_1 < (l0.length : Int)
     ·rw [if_pos c5] at H
      have c5b0 : decide (x10_1 < (l0.length : Int)) = true := decide_eq_true c5
      clear c5
      replace H := Option.bind_eq_some_iff.mp H
      obtain ⟨t240, A60, H⟩ := H
      replace H : (if t240 = true then (if x5_1.length < 17592186044416 then (spec_keMoves.l0 k1 a1 (x5_1 ++ [x10_1]) l0 (l0.length : Int) (wrap64 (x10_1 + 1))) else (none)) else (spec_keMoves.l0 k1 a1 x5_1 l0 (l0.length : Int) (wrap64 (x10_1 + 1)))) = some r := H
      have A6 := aM A60
      clear A60
      by_cases c7 : t240 = true
      ·subst c7
       have H1 : (if x5_1.length < 17592186044416 then (spec_keMoves.l0 k1 a1 (x5_1 ++ [x10_1]) l0 (l0.length : Int) (wrap64 (x10_1 + 1))) else (none)) = some r := by rw [if_pos rfl] at H; exact H
       clear H; have H := H1; clear H1
       by_cases c8 : x5_1.length < 17592186044416
       ·rw [if_pos c8] at H
        have LMc8 := aM c8
        clear c8
        obtain ⟨y241, hy241⟩ : ∃ y_ : List Int, y_ = (x5_1 ++ [x10_1]) := ⟨_, rfl⟩
        replace H : (spec_keMoves.l0 k1 a1 y241 l0 (l0.length : Int) (wrap64 (x10_1 + 1))) = some r := by first | (rw [hy241]; with_reducible exact H) | (have H2_ := (Option.bind_some _ _).symm.trans H; rw [hy241]; with_reducible exact H2_) | (have H2_ := (Option.bind_some _ _).symm.trans H; with_reducible exact H2_) | with_reducible exact H | (rw [hy241]; exact H) | exact H
        have Ny241 := aM hy241
        clear hy241
        have H' := aM H
        clear H
        have p239 : 0 ≤ (x10_1 : Int) := of_decide_eq_true (by first | (with_reducible assumption) | assumption)
        have q239 : x10_1 < (l0.length : Int) := of_decide_eq_true (by first | (with_reducible assumption) | assumption)
        obtain ⟨ad239, e239, hx239_0⟩ := Kd.at_string HR0.out x10_1 p239 q239
        cases e239
        replace hx239_0 := (HB.out.cell (World.block_lt_of_cell? w _ hx239_0)).trans hx239_0
        replace p239 := eq_true p239
        replace q239 := eq_true q239
        go_wp2_with (first | ((with_reducible refine gate_callee (f := 48) rfl ?_); refine goesL_ (some 17) rfl rfl Tryd.func48 (by kernel_rfl) rfl #[.string (rdOf ByteArray.empty l0 x10_1), .string a1] rfl (by (try simp only [List.map_toArray, List.map_cons, List.map_nil]); first | done | rfl | (simp only [List.length_drop, List.length_take]; rfl)) ?_; (with_reducible refine (spec_keFits.calls k1 (rdOf ByteArray.empty l0 x10_1) a1 true _ A6.out).mono ?_); rintro e w9 ⟨rfl, hb⟩; refine ⟨_, rfl, ?_⟩; have n0_ := aM (Kd.R_below (by (with_reducible repeat (first | apply rA | apply rN | apply rD)); exact HO_5.out) hb); have n1_ := aM (below_step (by repeat (first | (with_reducible first | exact HB.out | apply bA | apply bN | apply bD) | exact HB.out)) hb); clear HO_5; clear HB; have HO_5 := n0_; have HB := n1_; clear n0_ n1_; (try clear hb); (try clear hb2); (try clear hk); (try clear hi)) | ((with_reducible refine gate_builtin (b := .append) (xs := #[.tmp 18, .tmp 20]) rfl ?_); at_builtin; refine Kd.R_append (Kd.int .i64) (w0 := w) w.heap.size rfl (.tmp 18) (.tmp 20) 27 3 (.int .i64 0) 8 rfl Tryd.underlying27 info3 rfl (by decide) (by omega) u5 x5_1 x10_1 [.int .i64 x10_1] (fun _ => True) (fun _ => False) rfl rfl ?aP (fun _ hk => hk.elim) ?aF ?aO ?aB ?aS ?aL ?_; (case aP => exact rfl); (case aB => exact (by repeat (first | (with_reducible first | exact HB.out | apply bA | apply bN | apply bD) | exact HB.out))); (case aF => exact (fun _ _ => trivial)); (case aO => exact (by (with_reducible repeat (first | apply rA | apply rN | apply rD)); exact HO_5.out)); (case aS => exact (below_size (by repeat (first | (with_reducible first | exact HB.out | apply bA | apply bN | apply bD) | exact HB.out)))); (case aL => have := LMc8.out; omega); intro v242 w10 ho hb hg hat; rw [← Ny241.out] at ho; have n0_ := aM (hb); have n1_ := aM (ho); clear HB; clear HO_5; have HB := n0_; have HO243 := n1_; clear n0_ n1_; clear ho hb hg hat))
        go_roundg k1
        case measure => have := HK1.out; omega
        case rel => exact ⟨(y241), (wrap64 (x10_1 + 1)), (by first | rfl | (simp; done) | (simp [*]; done)), H', ⟨by have := HK1.out; omega⟩, ⟨by (with_reducible repeat (first | apply rA | apply rN | apply rD)); exact HO243.out⟩, ⟨by repeat (first | (with_reducible first | exact HB.out | apply bA | apply bN | apply bD) | exact HB.out)⟩⟩
       ·rw [if_neg c8] at H
        exact absurd H (by simp)
      ·replace c7 := Bool.eq_false_iff.mpr c7
       subst c7
       have H1 : (spec_keMoves.l0 k1 a1 x5_1 l0 (l0.length : Int) (wrap64 (x10_1 + 1))) = some r := by rw [if_neg (show ¬ (false = true) by decide)] at H; exact H
       clear H; have H := H1; clear H1
       have H' := aM H
       clear H
       have p239 : 0 ≤ (x10_1 : Int) := of_decide_eq_true (by first | (with_reducible assumption) | assumption)
       have q239 : x10_1 < (l0.length : Int) := of_decide_eq_true (by first | (with_reducible assumption) | assumption)
       obtain ⟨ad239, e239, hx239_0⟩ := Kd.at_string HR0.out x10_1 p239 q239
       cases e239
       replace hx239_0 := (HB.out.cell (World.block_lt_of_cell? w _ hx239_0)).trans hx239_0
       replace p239 := eq_true p239
       replace q239 := eq_true q239
       go_wp2_with (first | ((with_reducible refine gate_callee (f := 48) rfl ?_); refine goesL_ (some 17) rfl rfl Tryd.func48 (by kernel_rfl) rfl #[.string (rdOf ByteArray.empty l0 x10_1), .string a1] rfl (by (try simp only [List.map_toArray, List.map_cons, List.map_nil]); first | done | rfl | (simp only [List.length_drop, List.length_take]; rfl)) ?_; (with_reducible refine (spec_keFits.calls k1 (rdOf ByteArray.empty l0 x10_1) a1 false _ A6.out).mono ?_); rintro e w11 ⟨rfl, hb⟩; refine ⟨_, rfl, ?_⟩; have n0_ := aM (Kd.R_below (by (with_reducible repeat (first | apply rA | apply rN | apply rD)); exact HO_5.out) hb); have n1_ := aM (below_step (by repeat (first | (with_reducible first | exact HB.out | apply bA | apply bN | apply bD) | exact HB.out)) hb); clear HO_5; clear HB; have HO_5 := n0_; have HB := n1_; clear n0_ n1_; (try clear hb); (try clear hb2); (try clear hk); (try clear hi)))
       go_roundg k1
       case measure => have := HK1.out; omega
       case rel => exact ⟨(x5_1), (wrap64 (x10_1 + 1)), (by first | rfl | (simp; done) | (simp [*]; done)), H', ⟨by have := HK1.out; omega⟩, ⟨by (with_reducible repeat (first | apply rA | apply rN | apply rD)); exact HO_5.out⟩, ⟨by repeat (first | (with_reducible first | exact HB.out | apply bA | apply bN | apply bD) | exact HB.out)⟩⟩
     ·rw [if_neg c5] at H
      exact absurd H (by simp)
    ·rw [if_neg c4] at H
     exact absurd H (by simp)
   ·rw [if_neg c3] at H
    have c3b0 : decide (x10_1 < (l0.length : Int)) = false := decide_eq_false c3
    clear c3
    obtain rfl := Option.some.inj H
    go_wp2
    go_ret
    exact ⟨_, by first | rfl | (simp [errW_none, errW_some] <;> rfl) | (simp [*, errW_none, errW_some] <;> rfl), by (with_reducible repeat (first | apply rA | apply rN | apply rD)); exact HO_5.out, by repeat (first | (with_reducible first | exact HB.out | apply bA | apply bN | apply bD) | exact HB.out)⟩

/-! ### spec_riMove: function 37 -/
def spec_riMove.f (a0 : ByteArray) (a1 : Int) : Option (ByteArray) := if 0 ≤ a1 then (if a1 < (a0.size : Int) then (if (bt a0 a1) = 49 then (if a1 ≤ (a0.size : Int) then (if (a0.extract 0 (a1 : Int).toNat).size + 1 ≤ 9223372036854775807 then (if 0 ≤ (wrap64 (a1 + 1)) then (if (wrap64 (a1 + 1)) ≤ (a0.size : Int) then (if ((a0.extract 0 (a1 : Int).toNat) ++ (⟨#[48]⟩ : ByteArray)).size + (a0.extract ((wrap64 (a1 + 1)) : Int).toNat a0.size).size ≤ 9223372036854775807 then (some (((a0.extract 0 (a1 : Int).toNat) ++ (⟨#[48]⟩ : ByteArray)) ++ (a0.extract ((wrap64 (a1 + 1)) : Int).toNat a0.size))) else (none)) else (none)) else (none)) else (none)) else (none)) else (if a1 ≤ (a0.size : Int) then (if (a0.extract 0 (a1 : Int).toNat).size + 1 ≤ 9223372036854775807 then (if 0 ≤ (wrap64 (a1 + 1)) then (if (wrap64 (a1 + 1)) ≤ (a0.size : Int) then (if ((a0.extract 0 (a1 : Int).toNat) ++ (⟨#[49]⟩ : ByteArray)).size + (a0.extract ((wrap64 (a1 + 1)) : Int).toNat a0.size).size ≤ 9223372036854775807 then (some (((a0.extract 0 (a1 : Int).toNat) ++ (⟨#[49]⟩ : ByteArray)) ++ (a0.extract ((wrap64 (a1 + 1)) : Int).toNat a0.size))) else (none)) else (none)) else (none)) else (none)) else (none))) else (none)) else (none)
set_option maxHeartbeats 8000000 in
set_option maxRecDepth 100000 in
theorem spec_riMove.calls (a0 : ByteArray) (a1 : Int) (r : ByteArray) (w : World) (h : spec_riMove.f a0 a1 = some r) :
  Calls Tryd.prog 37 #[.string a0, .int .i64 a1] w fun e w' => e = .returned (.string r) ∧ Drawn0 w w' := by
 have H : (if 0 ≤ a1 then (if a1 < (a0.size : Int) then (if (bt a0 a1) = 49 then (if a1 ≤ (a0.size : Int) then (if (a0.extract 0 (a1 : Int).toNat).size + 1 ≤ 9223372036854775807 then (if 0 ≤ (wrap64 (a1 + 1)) then (if (wrap64 (a1 + 1)) ≤ (a0.size : Int) then (if ((a0.extract 0 (a1 : Int).toNat) ++ (⟨#[48]⟩ : ByteArray)).size + (a0.extract ((wrap64 (a1 + 1)) : Int).toNat a0.size).size ≤ 9223372036854775807 then (some (((a0.extract 0 (a1 : Int).toNat) ++ (⟨#[48]⟩ : ByteArray)) ++ (a0.extract ((wrap64 (a1 + 1)) : Int).toNat a0.size))) else (none)) else (none)) else (none)) else (none)) else (none)) else (if a1 ≤ (a0.size : Int) then (if (a0.extract 0 (a1 : Int).toNat).size + 1 ≤ 9223372036854775807 then (if 0 ≤ (wrap64 (a1 + 1)) then (if (wrap64 (a1 + 1)) ≤ (a0.size : Int) then (if ((a0.extract 0 (a1 : Int).toNat) ++ (⟨#[49]⟩ : ByteArray)).size + (a0.extract ((wrap64 (a1 + 1)) : Int).toNat a0.size).size ≤ 9223372036854775807 then (some (((a0.extract 0 (a1 : Int).toNat) ++ (⟨#[49]⟩ : ByteArray)) ++ (a0.extract ((wrap64 (a1 + 1)) : Int).toNat a0.size))) else (none)) else (none)) else (none)) else (none)) else (none))) else (none)) else (none)) = some r := h
 clear h
 by_cases c3 : 0 ≤ a1
 ·rw [if_pos c3] at H
  have c3b0 : decide (0 ≤ a1) = true := decide_eq_true c3
  clear c3
  by_cases c4 : a1 < (a0.size : Int)
  ·rw [if_pos c4] at H
   have c4b0 : decide (a1 < (a0.size : Int)) = true := decide_eq_true c4
   clear c4
   by_cases c6 : (bt a0 a1) = 49
   ·rw [if_pos c6] at H
    have c6b0 : ((bt a0 a1) == 49) = true := beq_iff_eq.mpr c6
    have c6b1 : ((bt a0 a1) != 49) = false := bne_eq_false_iff_eq.mpr c6
    clear c6
    have c7b0 := eq_true (of_decide_eq_true (by first | (with_reducible assumption) | assumption) : 0 ≤ a1)
    by_cases c8 : a1 ≤ (a0.size : Int)
    ·rw [if_pos c8] at H
     have c8b0 := eq_true c8
     have c8b1 : decide (a1 ≤ (a0.size : Int)) = true := decide_eq_true c8
     clear c8
     by_cases c9 : (a0.extract 0 (a1 : Int).toNat).size + 1 ≤ 9223372036854775807
     ·rw [if_pos c9] at H
      have c9b0 := eq_true c9
      have c9b1 : decide ((a0.extract 0 (a1 : Int).toNat).size + 1 ≤ 9223372036854775807) = true := decide_eq_true c9
      try have c9b2 : (9223372036854775807 < (a0.extract 0 (a1 : Int).toNat).size + 1) = False := eq_false (Nat.not_lt.2 c9)
      have hmin_ : min a1.toNat a0.size = a1.toNat := Nat.min_eq_left (by have h1_ := of_eq_true c8b0; omega)
      have c9b3 : (9223372036854775807 < a1.toNat + 1) = False := eq_false (by have := c9; rw [ByteArray.size_extract, hmin_] at this; omega)
      obtain ⟨ji10, hji10⟩ : ∃ j_ : Int, (wrap64 (a1 + 1)) = j_ := ⟨_, rfl⟩
      replace H : (if 0 ≤ (ji10) then (if (ji10) ≤ (a0.size : Int) then (if ((a0.extract 0 (a1 : Int).toNat) ++ (⟨#[48]⟩ : ByteArray)).size + (a0.extract ((ji10) : Int).toNat a0.size).size ≤ 9223372036854775807 then (some (((a0.extract 0 (a1 : Int).toNat) ++ (⟨#[48]⟩ : ByteArray)) ++ (a0.extract ((ji10) : Int).toNat a0.size))) else (none)) else (none)) else (none)) = some r := by first | (rw [hji10] at H; exact H) | (simp only [hji10] at H ⊢; exact H)
      have hji10w : (IntKind.i64.wrap (a1 + 1)) = ji10 := (i64_w _).trans hji10
      by_cases c11 : 0 ≤ (ji10)
      ·rw [if_pos c11] at H
       have c11b0 := eq_true c11
       have c11b1 : decide (0 ≤ (ji10)) = true := decide_eq_true c11
       clear c11
       by_cases c12 : (ji10) ≤ (a0.size : Int)
       ·rw [if_pos c12] at H
        have c12b0 := eq_true c12
        have c12b1 : decide ((ji10) ≤ (a0.size : Int)) = true := decide_eq_true c12
        clear c12
        by_cases c13 : ((a0.extract 0 (a1 : Int).toNat) ++ (⟨#[48]⟩ : ByteArray)).size + (a0.extract ((ji10) : Int).toNat a0.size).size ≤ 9223372036854775807
        ·rw [if_pos c13] at H
         have c13b0 := eq_true c13
         have c13b1 : decide (((a0.extract 0 (a1 : Int).toNat) ++ (⟨#[48]⟩ : ByteArray)).size + (a0.extract ((ji10) : Int).toNat a0.size).size ≤ 9223372036854775807) = true := decide_eq_true c13
         try have c13b2 : (9223372036854775807 < ((a0.extract 0 (a1 : Int).toNat) ++ (⟨#[48]⟩ : ByteArray)).size + (a0.extract ((ji10) : Int).toNat a0.size).size) = False := eq_false (Nat.not_lt.2 c13)
         have c13b3 : (9223372036854775807 < a1.toNat + 1 + (a0.size - ji10.toNat)) = False := eq_false (by have := c13; simp only [ByteArray.size_append, ByteArray.size_extract, hmin_, Nat.min_self, Nat.sub_zero] at this; have e_ : ((⟨#[48]⟩ : ByteArray)).size = 1 := rfl; have e2_ : ((⟨#[49]⟩ : ByteArray)).size = 1 := rfl; omega)
         obtain rfl := Option.some.inj H
         have p5 : 0 ≤ (a1 : Int) := of_decide_eq_true (by first | (with_reducible assumption) | assumption)
         have q5 : a1 < (a0.size : Int) := of_decide_eq_true (by first | (with_reducible assumption) | assumption)
         have hx5 := bt_at a0 a1
         replace p5 := eq_true p5
         replace q5 := eq_true q5
         go_enter Tryd.func37, Tryd.ntmps37
         go_wp2
         repeat (go_quiet (fail); try go_wp2)
         go_ret
         exact ⟨by first | rfl | (simp; done) | (simp only [← hji10] <;> (first | rfl | simp)) | (simp [*]; done), by repeat (first | exact Drawn0.refl _ | apply Drawn0.step)⟩
        ·rw [if_neg c13] at H
         exact absurd H (by simp)
       ·rw [if_neg c12] at H
        exact absurd H (by simp)
      ·rw [if_neg c11] at H
       exact absurd H (by simp)
     ·rw [if_neg c9] at H
      exact absurd H (by simp)
    ·rw [if_neg c8] at H
     exact absurd H (by simp)
   ·rw [if_neg c6] at H
    have c6b0 : ((bt a0 a1) == 49) = false := beq_eq_false_iff_ne.mpr c6
    have c6b1 : ((bt a0 a1) != 49) = true := bne_iff_ne.mpr c6
    have c14b0 := eq_true (of_decide_eq_true (by first | (with_reducible assumption) | assumption) : 0 ≤ a1)
    by_cases c15 : a1 ≤ (a0.size : Int)
    ·rw [if_pos c15] at H
     have c15b0 := eq_true c15
     have c15b1 : decide (a1 ≤ (a0.size : Int)) = true := decide_eq_true c15
     clear c15
     by_cases c16 : (a0.extract 0 (a1 : Int).toNat).size + 1 ≤ 9223372036854775807
     ·rw [if_pos c16] at H
      have c16b0 := eq_true c16
      have c16b1 : decide ((a0.extract 0 (a1 : Int).toNat).size + 1 ≤ 9223372036854775807) = true := decide_eq_true c16
      try have c16b2 : (9223372036854775807 < (a0.extract 0 (a1 : Int).toNat).size + 1) = False := eq_false (Nat.not_lt.2 c16)
      have hmin_ : min a1.toNat a0.size = a1.toNat := Nat.min_eq_left (by have h1_ := of_eq_true c15b0; omega)
      have c16b3 : (9223372036854775807 < a1.toNat + 1) = False := eq_false (by have := c16; rw [ByteArray.size_extract, hmin_] at this; omega)
      obtain ⟨ji17, hji17⟩ : ∃ j_ : Int, (wrap64 (a1 + 1)) = j_ := ⟨_, rfl⟩
      replace H : (if 0 ≤ (ji17) then (if (ji17) ≤ (a0.size : Int) then (if ((a0.extract 0 (a1 : Int).toNat) ++ (⟨#[49]⟩ : ByteArray)).size + (a0.extract ((ji17) : Int).toNat a0.size).size ≤ 9223372036854775807 then (some (((a0.extract 0 (a1 : Int).toNat) ++ (⟨#[49]⟩ : ByteArray)) ++ (a0.extract ((ji17) : Int).toNat a0.size))) else (none)) else (none)) else (none)) = some r := by first | (rw [hji17] at H; exact H) | (simp only [hji17] at H ⊢; exact H)
      have hji17w : (IntKind.i64.wrap (a1 + 1)) = ji17 := (i64_w _).trans hji17
      by_cases c18 : 0 ≤ (ji17)
      ·rw [if_pos c18] at H
       have c18b0 := eq_true c18
       have c18b1 : decide (0 ≤ (ji17)) = true := decide_eq_true c18
       clear c18
       by_cases c19 : (ji17) ≤ (a0.size : Int)
       ·rw [if_pos c19] at H
        have c19b0 := eq_true c19
        have c19b1 : decide ((ji17) ≤ (a0.size : Int)) = true := decide_eq_true c19
        clear c19
        by_cases c20 : ((a0.extract 0 (a1 : Int).toNat) ++ (⟨#[49]⟩ : ByteArray)).size + (a0.extract ((ji17) : Int).toNat a0.size).size ≤ 9223372036854775807
        ·rw [if_pos c20] at H
         have c20b0 := eq_true c20
         have c20b1 : decide (((a0.extract 0 (a1 : Int).toNat) ++ (⟨#[49]⟩ : ByteArray)).size + (a0.extract ((ji17) : Int).toNat a0.size).size ≤ 9223372036854775807) = true := decide_eq_true c20
         try have c20b2 : (9223372036854775807 < ((a0.extract 0 (a1 : Int).toNat) ++ (⟨#[49]⟩ : ByteArray)).size + (a0.extract ((ji17) : Int).toNat a0.size).size) = False := eq_false (Nat.not_lt.2 c20)
         have c20b3 : (9223372036854775807 < a1.toNat + 1 + (a0.size - ji17.toNat)) = False := eq_false (by have := c20; simp only [ByteArray.size_append, ByteArray.size_extract, hmin_, Nat.min_self, Nat.sub_zero] at this; have e_ : ((⟨#[48]⟩ : ByteArray)).size = 1 := rfl; have e2_ : ((⟨#[49]⟩ : ByteArray)).size = 1 := rfl; omega)
         obtain rfl := Option.some.inj H
         have p5 : 0 ≤ (a1 : Int) := of_decide_eq_true (by first | (with_reducible assumption) | assumption)
         have q5 : a1 < (a0.size : Int) := of_decide_eq_true (by first | (with_reducible assumption) | assumption)
         have hx5 := bt_at a0 a1
         replace p5 := eq_true p5
         replace q5 := eq_true q5
         go_enter Tryd.func37, Tryd.ntmps37
         go_wp2
         repeat (go_quiet (fail); try go_wp2)
         go_ret
         exact ⟨by first | rfl | (simp; done) | (simp only [← hji17] <;> (first | rfl | simp)) | (simp [*]; done), by repeat (first | exact Drawn0.refl _ | apply Drawn0.step)⟩
        ·rw [if_neg c20] at H
         exact absurd H (by simp)
       ·rw [if_neg c19] at H
        exact absurd H (by simp)
      ·rw [if_neg c18] at H
       exact absurd H (by simp)
     ·rw [if_neg c16] at H
      exact absurd H (by simp)
    ·rw [if_neg c15] at H
     exact absurd H (by simp)
  ·rw [if_neg c4] at H
   exact absurd H (by simp)
 ·rw [if_neg c3] at H
  exact absurd H (by simp)

end Go.Proofs.YtdgpkdgpmidaoaaDoor.PK
