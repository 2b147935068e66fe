-- written by a program of this session's (wip/tools), over the kit's print
import Derived.Test.YtbmbehkdidlolaaGreatDoorPTx0
import Derived.Test.YtbmbehkdidlolaaGreatDoorPTx1
-- squeezed
-- squeezed twice
namespace Go.Proofs.YtbmbehkdidlolaaGreatDoor.PT
open Go.RowKit Go.Proofs.YtbmbehkdidlolaaGreatDoorW.PrintWords Go.Proofs.YtbmbehkdidlolaaGreatDoorW.PrintLast Go.Proofs.YtbmbehkdidlolaaGreatDoorW.PrintMore
attribute [local go_sem] max2_int min2_int max_two min_two max_three min_three max_four min_four   -- for this text's walks alone
set_option linter.unusedVariables false
set_option linter.unusedSimpArgs false

/-! ### impl_keyedLinks: function 33 -/
mutual
def impl_keyedLinks.l0 : Nat → List ByteArray → List (List Int) → List ByteArray → Int → Int → Option ((List (List Int)))
 | 0, _, _, _, _, _ => none
 | k + 1, x0, x3, x14, x15, x16 => if x16 < x15 then (if 0 ≤ x16 then (if x16 < (x14.length : Int) then ((impl_keyedMoves.f k x0 (rdOf ByteArray.empty x14 x16)).bind fun t127 => (impl_keyedLinks.l1 k x0 x3 (rdOf ByteArray.empty x14 x16) x14 x15 x16 t127 (t127.length : Int) 0)) else (none)) else (none)) else (some x3)
def impl_keyedLinks.l1 : Nat → List ByteArray → List (List Int) → ByteArray → List ByteArray → Int → Int → List Int → Int → Int → Option ((List (List Int)))
 | 0, _, _, _, _, _, _, _, _, _ => none
 | k + 1, x0, x3, x5, x14, x15, x16, x22, x23, x24 => if x24 < x23 then (if 0 ≤ x24 then (if x24 < (x22.length : Int) then ((impl_bits.f k x5).bind fun t131 => ((impl_bits.f k x5).bind fun t132 => (if 0 ≤ t132 then (if t132 < (x3.length : Int) then ((impl_bits.f k x5).bind fun t134 => (if 0 ≤ (rd x22 x24) then (if (rd_L2 x3 t132).length < 17592186044416 then (impl_keyedLinks.l1 k x0 (x3.set (t132 : Int).toNat ((rd_L2 x3 t132) ++ [Go.bits .xor .i64 t134 (shl .i64 1 (rd x22 x24))])) x5 x14 x15 x16 x22 x23 (wrap64 (x24 + 1))) else (none)) else (none))) else (none)) else (none)))) else (none)) else (none)) else (impl_keyedLinks.l0 k x0 x3 x14 x15 (wrap64 (x16 + 1)))
end
def impl_keyedLinks.f (k : Nat) (l0 : List ByteArray) : Option ((List (List Int))) := if 0 ≤ (shl .i64 1 (l0.length : Int)) then (if (shl .i64 1 (l0.length : Int) : Int).toNat ≤ 11728124029610 then ((impl_textStates.f k (l0.length : Int)).bind fun t123 => (impl_keyedLinks.l0 k l0 (List.replicate (shl .i64 1 (l0.length : Int) : Int).toNat []) t123 (t123.length : Int) 0)) else (none)) else (none)
theorem impl_keyedLinks.mono_l : ∀ k, (∀ y0 y1 y2 y3 y4, LeO (impl_keyedLinks.l0 k y0 y1 y2 y3 y4) (impl_keyedLinks.l0 (k + 1) y0 y1 y2 y3 y4)) ∧ (∀ y0 y1 y2 y3 y4 y5 y6 y7 y8, LeO (impl_keyedLinks.l1 k y0 y1 y2 y3 y4 y5 y6 y7 y8) (impl_keyedLinks.l1 (k + 1) y0 y1 y2 y3 y4 y5 y6 y7 y8))
 | 0 => ⟨fun _ _ _ _ _ r h => by simp [impl_keyedLinks.l0] at h, fun _ _ _ _ _ _ _ _ _ r h => by simp [impl_keyedLinks.l1] at h⟩
 | k + 1 => by
  obtain ⟨ih0, ih1⟩ := impl_keyedLinks.mono_l k
  refine ⟨?_, ?_⟩
  ·intro y0 y1 y2 y3 y4
   unfold impl_keyedLinks.l0
   with_reducible repeat' first | exact ih0 _ _ _ _ _ | exact ih1 _ _ _ _ _ _ _ _ _ | exact impl_bits.mono _ _ | exact impl_keyedMoves.mono _ _ _ | exact impl_textStates.mono _ _ | exact LeO.refl _ | exact LeO.none _ | refine LeO.ite ?_ ?_ | refine LeO.bind ?_ (fun _ => ?_)
  ·intro y0 y1 y2 y3 y4 y5 y6 y7 y8
   unfold impl_keyedLinks.l1
   with_reducible repeat' first | exact ih0 _ _ _ _ _ | exact ih1 _ _ _ _ _ _ _ _ _ | exact impl_bits.mono _ _ | exact impl_keyedMoves.mono _ _ _ | exact impl_textStates.mono _ _ | exact LeO.refl _ | exact LeO.none _ | refine LeO.ite ?_ ?_ | refine LeO.bind ?_ (fun _ => ?_)
theorem impl_keyedLinks.mono : ∀ a0 k, LeO (impl_keyedLinks.f k a0) (impl_keyedLinks.f (k + 1) a0) := by
 intro a0 k
 obtain ⟨ih0, ih1⟩ := impl_keyedLinks.mono_l k
 unfold impl_keyedLinks.f
 with_reducible repeat' first | exact ih0 _ _ _ _ _ | exact ih1 _ _ _ _ _ _ _ _ _ | exact impl_bits.mono _ _ | exact impl_keyedMoves.mono _ _ _ | exact impl_textStates.mono _ _ | exact LeO.refl _ | exact LeO.none _ | refine LeO.ite ?_ ?_ | refine LeO.bind ?_ (fun _ => ?_)
def impl_keyedLinks.T8 : Bool × List (List Nat × List Nat) := (true, [([], []), ([], []), ([1], [1]), ([], []), ([], []), ([4, 2], [4]), ([3, 5], [3, 5]), ([6], [6]), ([], []), ([8, 5], [8]), ([], []), ([10], [10]), ([9, 11], [9, 11]), ([12], [12]), ([7, 13, 9], [7, 13]), ([0, 2, 0, 1, 2, 3, 4, 5, 6, 7, 8, 9, 10, 11, 12, 13, 14], [0, 2]), ([15, 14, 14, 0, 1, 2, 3, 4, 5, 6, 7, 8, 9, 10, 11, 12, 13, 14], [14, 15])])
def impl_keyedLinks.B8 : List Nat := [0, 0, 2, 0, 0, 22, 62, 126, 0, 310, 0, 1024, 3894, 7990, 16382, 32767, 65535]
theorem impl_keyedLinks.tab8 : rtab .any (opsOf Tryz.f33 8) = impl_keyedLinks.T8 := by kernel_rfl
theorem impl_keyedLinks.bits8 : waitsOk impl_keyedLinks.T8.2 impl_keyedLinks.B8 = true := by kernel_rfl
set_option maxHeartbeats 8000000 in
set_option maxRecDepth 100000 in
theorem impl_keyedLinks.calls (k : Nat) (A0 : Option Addr) (c0 : Nat) (l0 : List ByteArray) (r : List (List Int)) (w : World) (hr0 : Kd.C Kd.string w A0 l0.length l0) (hc0 : l0.length ≤ c0) (h : impl_keyedLinks.f k l0 = some r) :
  Calls Tryz.prog 33 #[.slice A0 l0.length c0] w fun e w' => ∃ v0_ : Value, e = .returned (v0_) ∧ Kd.S (Kd.slice 3 (Kd.int .i64)) 36 w' w.heap.size (fun _ => True) v0_ r ∧ Below w.heap.size w w' := by
 have HR0 := aM hr0
 have HC0 := aM hc0
 clear hr0 hc0
 have HB := aM (Below.refl w.heap.size w)
 have H := h; clear h; unfold impl_keyedLinks.f at H
 obtain ⟨ji2, hji2⟩ : ∃ j_ : Int, (shl .i64 1 (l0.length : Int)) = j_ := ⟨_, rfl⟩
 replace H : (if 0 ≤ (ji2) then (if (ji2 : Int).toNat ≤ 11728124029610 then ((impl_textStates.f k (l0.length : Int)).bind fun t123 => (impl_keyedLinks.l0 k l0 (List.replicate (ji2 : Int).toNat []) t123 (t123.length : Int) 0)) else (none)) else (none)) = some r := by first | (rw [hji2] at H; exact H) | (simp only [hji2] at H ⊢; exact H)
 have hji2_ : (IntKind.i64.wrap (1 * 2 ^ min (l0.length : Int).toNat 64)) = ji2 := hji2
 have hji2z : (l0.length : Int) ≤ 64 → (IntKind.i64.wrap (1 * 2 ^ (l0.length : Int).toNat)) = ji2 := shl_small hji2
 have hji2p : (IntKind.i64.wrap (1 * 2 ^ min l0.length 64)) = ji2 := hji2_
 have hji2q : (l0.length : Int) ≤ 64 → (IntKind.i64.wrap (1 * 2 ^ l0.length)) = ji2 := hji2z
 have hji2r : (IntKind.i64.wrap (2 ^ min l0.length 64)) = ji2 := by have h_ := hji2p; rw [Int.one_mul] at h_; exact h_
 have hji2s : (l0.length : Int) ≤ 64 → (IntKind.i64.wrap (2 ^ l0.length)) = ji2 := fun hle_ => by have h_ := hji2q hle_; rw [Int.one_mul] at h_; exact h_
 have hji2u : (IntKind.i64.wrap (2 ^ min (l0.length : Int).toNat 64)) = ji2 := by have h_ := hji2_; rw [Int.one_mul] at h_; exact h_
 have hji2v : (l0.length : Int) ≤ 64 → (IntKind.i64.wrap (2 ^ (l0.length : Int).toNat)) = ji2 := fun hle_ => by have h_ := hji2z hle_; rw [Int.one_mul] at h_; exact h_
 have hji2y : (wrap64 (1 * 2 ^ min (l0.length : Int).toNat 64)) = ji2 := (i64_w _).symm.trans hji2_
 have hji2x : (l0.length : Int) ≤ 64 → (wrap64 (1 * 2 ^ (l0.length : Int).toNat)) = ji2 := fun h_ => (i64_w _).symm.trans (hji2z h_)
 replace H := iC H; obtain ⟨c3, H⟩ := H
 have c3b0 := eq_true c3
 have c3b1 := decide_eq_true c3
 clear c3
 replace H := iC H; obtain ⟨c4, H⟩ := H
 have c4b0 := eq_true c4
 have c4b1 := decide_eq_true c4
 clear c4
 obtain ⟨y120, Ny120, h_⟩ := yG (α := List (List Int)) (List.replicate (ji2 : Int).toNat []); rw [← h_] at H; clear h_
 replace H := jS H; obtain ⟨t123, A5, H⟩ := H
 have H' := aM H
 clear H
 go_enter Tryz.func33, Tryz.ntmps33
 go_wp2_with (first | ((with_reducible refine gate_dst (N := 11) rfl ?_); refine Kd.S_make (Kd.slice 3 (Kd.int .i64)) _ 36 rfl (N := 11) rfl 47 _ _ rfl ji2 rfl rfl Tryz.underlying47 (.slice none 0 0) 24 info36 rfl (by decide) (by omega) [] (ok := fun _ => True) (okp := fun _ => True) ⟨_, rfl, Kd.R_nil _ _ _ _ _⟩ (fun _ hk => hk) trivial (oD) (Nat.le_trans (Nat.mul_le_mul_right _ (oD : ji2.toNat ≤ 11728124029610)) (by omega)) (Below.refl _ _) (Nat.le_refl _) ?_; intro v121 w6 ho7 hb hg_ hnew_; clear hg_ hnew_; rw [← Ny120.out] at ho7; have HO122 := aM (Kd.S_lower ho7 (below_size HB.out)); replace HB := aM (below_step HB.out hb); clear hb ho7) | ((with_reducible refine gC 40 rfl ?_); refine gL (some 14) Tryz.func40 #[.int .i64 (l0.length : Int)] ?_; (with_reducible refine (impl_textStates.calls k (l0.length : Int) t123 _ A5.out).mono ?_); rintro e w8 ⟨v124, rfl, ho0, hb⟩; refine ⟨_, rfl, ?_⟩; replace HO122 := aM (Kd.S_below (by (with_reducible repeat (first | apply Kd.S_alloc | apply Kd.S_drewN | apply Kd.S_drew)); exact HO122.out) hb); have HO125 := aM (Kd.R_lower ho0 (below_size HB.out)); replace HB := aM (below_step HB.out hb); (try clear hb); (try clear ho0); obtain ⟨Ao9, co9, eo9⟩ := Kd.R_slice HO125.out; subst eo9))
 go_loopg [16] k (fun kq v16 w' => ∃ (x3_1 : List (List Int)) (x16_1 : Int), v16 = .int .i64 x16_1 ∧ Aside0 (impl_keyedLinks.l0 kq l0 x3_1 t123 (t123.length : Int) x16_1 = some r) ∧ Aside0 (kq ≤ k) ∧ Aside0 (Kd.S (Kd.slice 3 (Kd.int .i64)) 36 w' w.heap.size (fun _ => True) v121 x3_1) ∧ Aside0 (Kd.R Kd.string 9 w' w.heap.size (fun _ => True) (.slice Ao9 t123.length co9) t123) ∧ Aside0 (Below w.heap.size w w'))
 case atStart => exact ⟨(y120), (0), rfl, H', ⟨Nat.le_refl _⟩, ⟨by (with_reducible repeat (first | apply Kd.S_alloc | apply Kd.S_drewN | apply Kd.S_drew)); exact HO122.out⟩, HO125, HB⟩
 case round =>
  clear H'
  clear c3b0 c3b1 c4b0 c4b1
  obtain ⟨x3_1, x16_1, rfl, HA, HK1, HO_3, HO_14, HB⟩ := hrel
  cases gk with
  | zero => exact absurd HA.out (by simp [impl_keyedLinks.l0])
  | succ k1 =>
   have H := HA.out
   clear HA
   simp only [impl_keyedLinks.l0] at H
   replace H := iO H; obtain ⟨c10, H⟩ | ⟨c10, H⟩ := H
   ·have c10b0 := decide_eq_true c10
    clear c10
    replace H := iC H; obtain ⟨c11, H⟩ := H
    have c11b0 := decide_eq_true c11
    clear c11
    replace H := iC H; obtain ⟨c12, H⟩ := H
    have c12b0 := decide_eq_true c12
    clear c12
    replace H := jS H; obtain ⟨t127, A13, H⟩ := H
    have H' := aM H
    clear H; obtain ⟨ad126, e126, hx126_0, p126, q126⟩ := aZ (Kd.at_string (Kd.R_reads' HO_14.out).2.2 x16_1); cases e126
    go_wp2_with (first | ((with_reducible refine gC 62 rfl ?_); refine gL (some 22) Tryz.func62 #[.slice A0 l0.length c0, .string (rdOf ByteArray.empty t123 x16_1)] ?_; (with_reducible refine (impl_keyedMoves.calls k1 _ _ l0 (rdOf ByteArray.empty t123 x16_1) t127 _ ?side1 ?side2 A13.out).mono ?_); (case side1 => exact Kd.C_below HR0.out HB.out); (case side2 => exact HC0.out); rintro e w14 ⟨v128, rfl, ho0, hb⟩; refine ⟨_, rfl, ?_⟩; replace HO_3 := aM (Kd.S_elder' (by (with_reducible repeat (first | apply Kd.S_alloc | apply Kd.S_drewN | apply Kd.S_drew)); exact HO_3.out) (Kd.R_base ho0) hb); replace HO_14 := aM (Kd.R_below HO_14.out hb); have HO129 := aM (Kd.R_lower ho0 (below_size HB.out)); replace HB := aM (below_step HB.out hb); (try clear hb); (try clear ho0); obtain ⟨Ao15, co15, eo15⟩ := Kd.R_slice HO129.out; subst eo15))
    go_loopg [24] k1 (fun kq v24 w' => ∃ (x3_2 : List (List Int)) (x24_2 : Int), v24 = .int .i64 x24_2 ∧ Aside0 (impl_keyedLinks.l1 kq l0 x3_2 (rdOf ByteArray.empty t123 x16_1) t123 (t123.length : Int) x16_1 t127 (t127.length : Int) x24_2 = some r) ∧ Aside0 (kq ≤ k1) ∧ Aside0 (Kd.S (Kd.slice 3 (Kd.int .i64)) 36 w' w.heap.size (fun k_ => some k_ ≠ ((.slice Ao15 t127.length co15) : Value).ownBlock) v121 x3_2) ∧ Aside0 (Kd.R Kd.string 9 w' w.heap.size (fun _ => True) (.slice (some ad126) t123.length co9) t123) ∧ Aside0 (Kd.R (Kd.int .i64) 3 w' w.heap.size (fun _ => True) (.slice Ao15 t127.length co15) t127) ∧ Aside0 (Below w.heap.size w w'))
    case atStart => exact ⟨(x3_1), (0), rfl, H', ⟨Nat.le_refl _⟩, ⟨by (with_reducible repeat (first | apply Kd.S_alloc | apply Kd.S_drewN | apply Kd.S_drew)); exact Kd.S_mono HO_3.out (fun _ hk => hk.2)⟩, HO_14, HO129, HB⟩
    case round =>
     clear H'
     clear c10b0 c11b0 c12b0 hx126_0 p126 q126
     obtain ⟨x3_2, x24_2, rfl, HA, HK2, HO_3, HO_14, HO_22, HB⟩ := hrel
     cases gk with
     | zero => exact absurd HA.out (by simp [impl_keyedLinks.l1])
     | succ k2 =>
      have H := HA.out
      clear HA
      simp only [impl_keyedLinks.l1] at H
      replace H := iO H; obtain ⟨c16, H⟩ | ⟨c16, H⟩ := H
      ·have c16b0 := decide_eq_true c16
       clear c16
       replace H := iC H; obtain ⟨c17, H⟩ := H
       have c17b0 := decide_eq_true c17
       clear c17
       replace H := iN H; obtain ⟨c18b0, H⟩ := H
       replace H := jS H; obtain ⟨t131, A19, H⟩ := H
       replace H := jS H; obtain ⟨t132, A20, H⟩ := H
       obtain rfl : t131 = t132 := Option.some.inj (A19.out.symm.trans A20.out)
       replace H := iC H; obtain ⟨c21, H⟩ := H
       have c21b0 := decide_eq_true c21
       clear c21
       replace H := iN H; obtain ⟨c22b0, H⟩ := H
       replace H := jS H; obtain ⟨t134, A23, H⟩ := H
       replace H := iT H; obtain ⟨c24b0, c24b1, H⟩ := H
       obtain ⟨ji25, hji25⟩ : ∃ j_ : Int, (shl .i64 1 (rd t127 x24_2)) = j_ := ⟨_, rfl⟩
       replace H : (if (rd_L2 x3_2 t131).length < 17592186044416 then (impl_keyedLinks.l1 k2 l0 (x3_2.set (t131 : Int).toNat ((rd_L2 x3_2 t131) ++ [Go.bits .xor .i64 t134 (ji25)])) (rdOf ByteArray.empty t123 x16_1) t123 (t123.length : Int) x16_1 t127 (t127.length : Int) (wrap64 (x24_2 + 1))) else (none)) = some r := by first | (rw [hji25] at H; exact H) | (simp only [hji25] at H ⊢; exact H)
       (try rw [hji25] at A19)
       (try rw [hji25] at A20)
       (try rw [hji25] at A23)
       have hji25_ : (IntKind.i64.wrap (1 * 2 ^ min (rd t127 x24_2).toNat 64)) = ji25 := hji25
       have hji25z : (rd t127 x24_2) ≤ 64 → (IntKind.i64.wrap (1 * 2 ^ (rd t127 x24_2).toNat)) = ji25 := shl_small hji25
       have hji25u : (IntKind.i64.wrap (2 ^ min (rd t127 x24_2).toNat 64)) = ji25 := by have h_ := hji25_; rw [Int.one_mul] at h_; exact h_
       have hji25v : (rd t127 x24_2) ≤ 64 → (IntKind.i64.wrap (2 ^ (rd t127 x24_2).toNat)) = ji25 := fun hle_ => by have h_ := hji25z hle_; rw [Int.one_mul] at h_; exact h_
       have hji25y : (wrap64 (1 * 2 ^ min (rd t127 x24_2).toNat 64)) = ji25 := (i64_w _).symm.trans hji25_
       have hji25x : (rd t127 x24_2) ≤ 64 → (wrap64 (1 * 2 ^ (rd t127 x24_2).toNat)) = ji25 := fun h_ => (i64_w _).symm.trans (hji25z h_)
       replace H := iC H; obtain ⟨c26, H⟩ := H
       have LMc26 := aM c26
       clear c26
       obtain ⟨y135, Ny135, h_⟩ := yG (α := List Int) ((rd_L2 x3_2 t131) ++ [Go.bits .xor .i64 t134 (ji25)]); rw [← h_] at H; clear h_
       obtain ⟨y138, Ny138, h_⟩ := yG (α := List (List Int)) (x3_2.set (t131 : Int).toNat y135); rw [← h_] at H; clear h_
       have H' := aM H
       clear H; obtain ⟨ad130, e130, hx130_0, p130, q130⟩ := aZ (Kd.at_int (Kd.R_reads' HO_22.out).2.2 x24_2); cases e130
       try go_wp2
       have n0_ := aM (Kd.S_drew HO_3.out); have n1_ := aM (Kd.R_drew HO_14.out); have n2_ := aM (Kd.R_drew HO_22.out); have n3_ := aM (below_drew1 HB.out); clear HO_3 HO_14 HO_22 HB; have HO_3 := n0_; have HO_14 := n1_; have HO_22 := n2_; have HB := n3_; clear n0_ n1_ n2_ n3_
       obtain ⟨Ao146, co146, eo146⟩ := Kd.S_slice HO_3.out
       subst eo146
       have p133 : 0 ≤ (t131 : Int) := oD; have q133 : t131 < (x3_2.length : Int) := oD
       obtain ⟨ad133, A133_0, c133_0, e133, hx133_0, hl133_0, hi133_0⟩ := at_L2 (Kd.S_reads' HO_3.out).2.2 t131 p133 q133
       cases e133
       obtain ⟨ce133, hce133, hMe133, hcc133⟩ := Kd.S_get HO_3.out [] t131 p133 (by first | exact q133 | exact oD | (have e_ := (Kd.S_reads' HO_3.out).1; omega))
       obtain ⟨ve133_0, rfl, ge133_0⟩ := hMe133
       have hv133_0 := hcc133 0 _ rfl
       rw [Nat.add_zero, show ((Kd.slice 3 (Kd.int .i64))).sz = 1 from rfl, Nat.mul_one] at hv133_0
       replace hv133_0 := Option.some.inj (hv133_0.symm.trans hx133_0)
       rw [hv133_0] at ge133_0
       have HL133_0 := aM (show Kd.R (Kd.int .i64) 3 _ _ _ _ (rd_L2 x3_2 t131) from ge133_0)
       clear hv133_0 ge133_0
       have HX133_0 := aM hx133_0
       clear hcc133 hce133
       have HR133_0 := aM hi133_0
       have HC133_0 := aM hl133_0
       clear hi133_0 hl133_0; replace p133 := eq_true p133; replace q133 := eq_true q133
       refine start_ (n := 17) (S := fun w' => w'.cell? (ad133.add (t131).toNat) = some (.slice A133_0 (rd_L2 x3_2 t131).length c133_0)) (ds := [16]) #[F,F,F,F,F,F,F,F,F,F,F,F,F,F,F,F,F] (by kernel_rfl) rfl rfl (hx133_0) (fun hHeld => ?_); refine with_tabW impl_keyedLinks.tab8 impl_keyedLinks.bits8 (fun HT_ HW_ => ?_)
       generalize wr.drew = w28 at HO_3 HO_14 HO_22 HB HL133_0 HR133_0 HX133_0 hx133_0 hHeld ⊢
       refine pU 0 (some 28) #[T,F,F,F,F,F,F,F,F,F,F,F,F,F,F,F,F] HT_ ?_
       refine pU 1 (some 29) #[T,T,F,F,F,F,F,F,F,F,F,F,F,F,F,F,F] HT_ ?_
       refine pU 3 (some 31) #[T,T,F,T,F,F,F,F,F,F,F,F,F,F,F,F,F] HT_ ?_
       refine pU 4 (some 32) #[T,T,F,T,T,F,F,F,F,F,F,F,F,F,F,F,F] HT_ ?_
       refine pU 8 (some 36) #[T,T,F,T,T,F,F,F,T,F,F,F,F,F,F,F,F] HT_ ?_
       refine pU 10 (some 38) #[T,T,F,T,T,F,F,F,T,F,T,F,F,F,F,F,F] HT_ ?_
       refine pU 11 (some 39) #[T,T,F,T,T,F,F,F,T,F,T,T,F,F,F,F,F] HT_ ?_
       refine one_ (i := 2) (N := some 30) #[T,T,T,T,T,F,F,F,T,F,T,T,F,F,F,F,F] rfl rfl (one_of HT_.out (by kernel_rfl)) (by decide) (fun K hK => ?_)
       refine goes_ Tryz.func68 (by kernel_rfl) rfl #[.string (rdOf ByteArray.empty t123 x16_1)] (by rfl) rfl rfl (by (try simp only [List.map_toArray, List.map_cons, List.map_nil]); first | done | rfl | (simp only [List.length_drop, List.length_take]; rfl)) ?_
       with_reducible refine (impl_bits.calls k2 (rdOf ByteArray.empty t123 x16_1) t131 _ A19.out).mono ?_
       rintro e w' ⟨rfl, ⟨nd, rfl⟩⟩
       refine ⟨_, rfl, ?_⟩
       refine hK.out _ _ (hHeld) (fun hHeld => ?_)
       clear hK K
       refine norm_ (a' := ?_) ?_ ?_
       rotate_left
       ·show Act.put _ (some 30) _ = _
        simp only [Act.put, sA, sB, sC, i64_w, i32_w]
        rfl
       refine one_ (i := 5) (N := some 33) #[T,T,T,T,T,T,F,F,T,F,T,T,F,F,F,F,F] rfl rfl (one_of HT_.out (by kernel_rfl)) (by decide) (fun K hK => ?_)
       refine goes_ Tryz.func68 (by kernel_rfl) rfl #[.string (rdOf ByteArray.empty t123 x16_1)] (by rfl) rfl rfl (by (try simp only [List.map_toArray, List.map_cons, List.map_nil]); first | done | rfl | (simp only [List.length_drop, List.length_take]; rfl)) ?_
       with_reducible refine (impl_bits.calls k2 (rdOf ByteArray.empty t123 x16_1) t131 _ A20.out).mono ?_
       rintro e w' ⟨rfl, ⟨nd, rfl⟩⟩
       refine ⟨_, rfl, ?_⟩
       obtain ⟨Ao29, co29, eo29⟩ := Kd.S_slice HO_3.out
       (first | subst eo29 | (injection eo29 with f1_ f2_ f3_; have f4_ := f1_.symm; have f5_ := f3_.symm; clear f1_ f2_ f3_; subst f4_; subst f5_))
       refine hK.out _ _ (hHeld) (fun hHeld => ?_)
       clear hK K
       refine norm_ (a' := ?_) ?_ ?_
       rotate_left
       ·show Act.put _ (some 33) _ = _
        simp only [Act.put, sA, sB, sC, i64_w, i32_w]
        rfl
       refine pU 6 (some 34) #[T,T,T,T,T,T,T,F,T,F,T,T,F,F,F,F,F] HT_ ?_
       refine take_ (i := 7) (N := some 35) (v := ?_) (a' := ?_) #[T,T,T,T,T,T,T,T,T,F,T,T,F,F,F,F,F] rfl rfl (take_ofW HT_.out HW_.out (by kernel_rfl)) (fun _ _ _ h => h) (Or.inl ⟨by rfl, ?_⟩) hHeld ?_ ?_
       rotate_left
       ·intro w' s0
        go_simp
        with_reducible rfl
       rotate_left
       ·simp only [Act.put, sA, sB, sC, i64_w, i32_w]
        rfl
       refine one_ (i := 9) (N := some 37) #[T,T,T,T,T,T,T,T,T,T,T,T,F,F,F,F,F] rfl rfl (one_of HT_.out (by kernel_rfl)) (by decide) (fun K hK => ?_)
       refine goes_ Tryz.func68 (by kernel_rfl) rfl #[.string (rdOf ByteArray.empty t123 x16_1)] (by rfl) rfl rfl (by (try simp only [List.map_toArray, List.map_cons, List.map_nil]); first | done | rfl | (simp only [List.length_drop, List.length_take]; rfl)) ?_
       with_reducible refine (impl_bits.calls k2 (rdOf ByteArray.empty t123 x16_1) t134 _ A23.out).mono ?_
       rintro e w' ⟨rfl, ⟨nd, rfl⟩⟩
       refine ⟨_, rfl, ?_⟩
       obtain ⟨go30, co30, eo30, gb30, gl30, cl30, HG30⟩ := Kd.S_form HO_3.out (by have h_ : (t131 : Int) < ((x3_2.length : Int) : Int) := oD; have h2_ : 0 ≤ (t131 : Int) := (oD); omega)
       (first | cases eo30 | (injection eo30 with ea_ en_ ec_; (first | subst ea_ | (injection ea_ with ea_; subst ea_)); subst ec_; clear en_))
       have GB30 := aM gb30
       have GG30 := aM HG30
       clear gb30 gl30 HG30
       (first | simp only [add_plain] at hx133_0 | skip)
       obtain ⟨oki30, ce30, hcl30, hM30, hcc30, _, _, hH30⟩ := Kd.S_elem HO_3.out [] (t131 : Int) (oD) (by have h_ : (t131 : Int) < ((x3_2.length : Int) : Int) := oD; first | exact h_ | (have e_ := (Kd.S_reads' HO_3.out).1; omega) | simpa using h_)
       obtain ⟨ve30_0, rfl, ge30_0⟩ := hM30
       have hv30 := hcc30 0 _ rfl
       have hX30 := HX133_0.out
       (try simp only [add_plain] at hX30)
       (try simp only [Nat.add_zero] at hv30)
       (try rw [show ((Kd.slice 3 (Kd.int .i64))).sz = 1 from rfl, Nat.mul_one] at hv30)
       replace hv30 := Option.some.inj (hv30.symm.trans hX30)
       subst hv30
       clear hX30 hcc30 hcl30
       have UU30 := aM (show Kd.R (Kd.int .i64) 3 _ w.heap.size oki30 (.slice A133_0 (rd_L2 x3_2 t131).length c133_0) (rd_L2 x3_2 t131) from ge30_0)
       have HH30 := aM hH30
       have HN30 := aM (Kd.S_reads' HO_3.out).1
       clear hH30 ge30_0
       refine hK.out _ _ (hHeld) (fun hHeld => ?_)
       clear hK K
       refine norm_ (a' := ?_) ?_ ?_
       rotate_left
       ·show Act.put _ (some 37) _ = _
        simp only [Act.put, sA, sB, sC, i64_w, i32_w]
        rfl
       refine pU 12 (some 40) #[T,T,T,T,T,T,T,T,T,T,T,T,T,F,F,F,F] HT_ ?_
       refine one_ (i := 13) (N := some 41) #[T,T,T,T,T,T,T,T,T,T,T,T,T,T,F,F,F] rfl rfl (one_of HT_.out (by kernel_rfl)) (by decide) (fun K hK => ?_)
       refine value_ (w1 := ?_) (v := ?_) (by rfl) rfl ?_ ?_
       rotate_left 2
       ·go_simp
        constructor
        ·rfl
        ·rfl
       refine hK.out _ _ ((World.cell?_alloc_lt _ _ _ (World.block_lt_of_cell? _ _ (hHeld))).trans (hHeld)) (fun hHeld => ?_)
       clear hK K
       refine norm_ (a' := ?_) ?_ ?_
       rotate_left
       ·show Act.put _ (some 41) _ = _
        simp only [Act.put, sA, sB, sC, i64_w, i32_w]
        rfl
       refine one_ (i := 14) (N := some 42) #[T,T,T,T,T,T,T,T,T,T,T,T,T,T,T,F,F] rfl rfl (one_of HT_.out (by kernel_rfl)) (by decide) (fun K hK => ?_)
       refine Kd.R_append_step (Kd.int .i64) (w0 := w) w.heap.size (by rfl) (.tmp 35) (.tmp 41) 36 3 (.int .i64 0) 8 rfl Tryz.underlying36 info3 rfl (by decide) (by omega) (.slice A133_0 (rd_L2 x3_2 t131).length c133_0) (rd_L2 x3_2 t131) (Go.bits .xor .i64 t134 (ji25)) [.int .i64 (Go.bits .xor .i64 t134 (ji25))] (fun k_ => oki30 k_ ∨ ((fun k_ => some k_ ≠ (.slice (some ad130) t127.length co15 : Value).ownBlock)) k_ ∧ w28.heap.size ≤ k_) (fun _ => False) rfl rfl ?aP (fun _ hk => hk.elim) ?aF ?aO ?aB ?aS ?aL ?_
       (case aP => exact rfl)
       (case aB => exact bQ)
       (case aF => exact (fun k_ hk => .inr ⟨Kd.fresh' (Kd.R_lt HO_22.out) k_ hk, hk⟩))
       (case aO => exact (Kd.R_mono UU30.out (fun _ hk => .inl hk)))
       (case aS => exact (below_size bQ))
       (case aL => have := LMc26.out; omega)
       intro v136 w31 ho hb hg hat
       (first | have HS0_ := cell_grown hg (hHeld) (by first | (rw [add_block]; exact (fun e_ => ((HL133_0.out.1 _ e_.symm).2) rfl)) | (show some (Addr.add _ _).block ≠ _; rw [add_block]; exact (fun e_ => ((HL133_0.out.1 _ e_.symm).2) rfl)) | exact (fun e_ => ((HL133_0.out.1 _ e_.symm).2) rfl)) | have HS0_ := cell_grown hg (cell_unalloc (hHeld) (by first | (rw [add_block]; exact Kd.S_lt HO_3.out _ rfl) | (show (Addr.add _ _).block < _; rw [add_block]; exact Kd.S_lt HO_3.out _ rfl) | exact Kd.S_lt HO_3.out _ rfl)) (by first | (rw [add_block]; exact (fun e_ => ((HL133_0.out.1 _ e_.symm).2) rfl)) | (show some (Addr.add _ _).block ≠ _; rw [add_block]; exact (fun e_ => ((HL133_0.out.1 _ e_.symm).2) rfl)) | exact (fun e_ => ((HL133_0.out.1 _ e_.symm).2) rfl)))
       rw [← Ny135.out] at ho
       have n0_ := aM (Kd.R_over' (v := (.slice A133_0 (rd_L2 x3_2 t131).length c133_0)) (rQ HO_14.out) (Kd.R_typed (rQ HL133_0.out)) (by decide) hg); have n1_ := aM (Kd.R_grown2 (rQ HO_22.out) rfl hg (fun k_ e_ => (HL133_0.out.1 k_ e_).1)); have n2_ := aM (hb); have n3_ := aM (Kd.H_grown (Kd.H_widen (by repeat (first | exact HH30.out | refine Kd.H_alloc ?_ _ | refine Kd.H_drewN ?_ _ | refine Kd.H_drew ?_))) hg (fun k_ e_ => .inl (UU30.out.1 k_ e_))); have n4_ := aM (ho); clear HO_14 HO_22 HB HH30 HO_3 UU30 HL133_0; have HO_14 := n0_; have HO_22 := n1_; have HB := n2_; have HH30 := n3_; have HO137 := n4_; clear n0_ n1_ n2_ n3_ n4_; clear ho hb hg hat; have p27 : 0 ≤ (t131 : Int) := oD; have q27 : (t131 : Int) < ((x3_2.length : Int) : Int) := oD; replace p27 := eq_true p27; replace q27 := eq_true q27
       obtain ⟨Ao34, co34, eo34⟩ := Kd.R_slice HO137.out
       (first | subst eo34 | (injection eo34 with f1_ f2_ f3_; have f4_ := f1_.symm; have f5_ := f3_.symm; clear f1_ f2_ f3_; subst f4_; subst f5_))
       obtain ⟨_, _, hraw32, _, _, hcc32, _⟩ := Kd.H_raw HH30.out (oD) (by have h_ : (t131 : Int) < ((x3_2.length : Int) : Int) := oD; first | exact h_ | (have e_ := (HN30.out); omega) | simpa using h_)
       obtain ⟨_, hfr32⟩ := Kd.H_at HH30.out (oD) (by have h_ : (t131 : Int) < ((x3_2.length : Int) : Int) := oD; first | exact h_ | (have e_ := (HN30.out); omega) | simpa using h_)
       have hx32_0 := hcc32 0 _ rfl
       have hf32_0 := hfr32 0
       (try simp only [Nat.add_zero] at hx32_0 hf32_0)
       (try rw [show ((Kd.slice 3 (Kd.int .i64))).sz = 1 from rfl, Nat.mul_one] at hx32_0)
       (try rw [show ((Kd.slice 3 (Kd.int .i64))).sz = 1 from rfl, Nat.mul_one] at hf32_0)
       have HP32 := Kd.S_seg0 HH30.out (oD) (by have h_ : (t131 : Int) < ((x3_2.length : Int) : Int) := oD; first | exact h_ | (have e_ := (HN30.out); omega) | simpa using h_) (seg := [.slice Ao34 y135.length co34]) (j := 0) (show 1 ≤ 1 from by decide) (x' := y135) (Kd.M_row HO137.out) (fun _ hk => hk)
       (try simp only [show ((Kd.slice 3 (Kd.int .i64))).sz = 1 from rfl, Nat.mul_one, Nat.add_zero] at HP32)
       clear hcc32 hfr32
       have HS32 := HP32.1
       rw [← Ny138.out] at HS32
       have HQ32 := aM HS32
       obtain ⟨_, hgg32⟩ := Kd.R_typed hraw32 go30 rfl
       have GG32_ := aM hgg32
       clear HP32 HS32 hgg32
       refine hK.out _ _ (HS0_) (fun hHeld => ?_)
       clear hK K
       refine norm_ (a' := ?_) ?_ ?_
       rotate_left
       ·show Act.put _ (some 42) _ = _
        simp only [Act.put, sA, sB, sC, i64_w, i32_w]
        rfl
       refine pU 15 (some 43) #[T,T,T,T,T,T,T,T,T,T,T,T,T,T,T,T,F] HT_ ?_
       refine last_ (i := 16) (N := none) #[T,T,T,T,T,T,T,T,T,T,T,T,T,T,T,T,T] rfl rfl (one_of HT_.out (by kernel_rfl)) (by decide) (fun K hK => ?_)
       refine skip_ (w1 := ?_) (by rfl) rfl ?_ ?_
       rotate_left
       ·go_simp
        rfl
       refine hK.out _ _ ?_
       clear hK K
       refine done_ (done_of HT_.out (by kernel_rfl)) ?_
       try go_wp2
       go_roundg k2
       case measure => have := HK1.out; have := HK2.out; omega
       case rel => exact ⟨(y138), (wrap64 (x24_2 + 1)), rfl, H', ⟨by have := HK1.out; have := HK2.out; omega⟩, ⟨by (with_reducible repeat (first | apply Kd.S_alloc | apply Kd.S_drewN | apply Kd.S_drew)); exact HQ32.out⟩, ⟨by (with_reducible repeat (first | apply rA | apply rN | apply rD)); exact Kd.R_mono (Kd.R_far (p := ⟨go30, (t131 : Int).toNat, none⟩) (Kd.R_types (t := 36) HO_14.out (by first | exact GG32_.out | exact (Kd.S_typed HO_3.out _ rfl).choose_spec) (by decide)) (fun _ hk => hk.2) (.slice Ao34 y135.length co34)) (fun _ hk => trivial)⟩, ⟨by (with_reducible repeat (first | apply rA | apply rN | apply rD)); exact Kd.R_mono (Kd.R_far (p := ⟨go30, (t131 : Int).toNat, none⟩) (Kd.R_types (t := 36) HO_22.out (by first | exact GG32_.out | exact (Kd.S_typed HO_3.out _ rfl).choose_spec) (by decide)) (fun _ hk => hk.2) (.slice Ao34 y135.length co34)) (fun _ hk => trivial)⟩, ⟨by repeat first | exact HB.out | apply bA | apply bN | apply bD | refine bS ?_ GB30.out⟩⟩
      ·have c16b0 := decide_eq_false c16
       clear c16
       have H' := aM H
       clear H
       go_wp2
       go_roundg k2
       case measure => have := HK1.out; have := HK2.out; omega
       case rel => exact ⟨(x3_2), (wrap64 (x16_1 + 1)), rfl, H', ⟨by have := HK1.out; have := HK2.out; omega⟩, ⟨by (with_reducible repeat (first | apply Kd.S_alloc | apply Kd.S_drewN | apply Kd.S_drew)); exact Kd.S_mono HO_3.out (fun _ hk => trivial)⟩, HO_14, HB⟩
   ·have c10b0 := decide_eq_false c10
    clear c10
    obtain rfl := Option.some.inj H
    go_wp2
    go_ret
    exact ⟨_, by first | rfl | (simp [errW_none, errW_some] <;> rfl) | (simp only [← hji2]; first | rfl | (simp [errW_none, errW_some] <;> rfl)) | (simp [*, errW_none, errW_some] <;> rfl), by (with_reducible repeat (first | apply Kd.S_alloc | apply Kd.S_drewN | apply Kd.S_drew)); exact HO_3.out, HB.out⟩
end Go.Proofs.YtbmbehkdidlolaaGreatDoor.PT
