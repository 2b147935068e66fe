-- written by a program of this session's (wip/tools), over the kit's print
import Derived.Test.YtbmbehkdidlolaaGreatDoorPTx0
import Derived.Test.YtbmbehkdidlolaaGreatDoorPTx1
import Derived.Test.YtbmbehkdidlolaaGreatDoorPTx4
-- squeezed
-- squeezed twice
namespace Go.Proofs.YtbmbehkdidlolaaGreatDoor.PT
open Go.RowKit Go.Proofs.YtbmbehkdidlolaaGreatDoorW.PrintWords Go.Proofs.YtbmbehkdidlolaaGreatDoorW.PrintLast Go.Proofs.YtbmbehkdidlolaaGreatDoorW.PrintMore
attribute [local go_sem] max2_int min2_int max_two min_two max_three min_three max_four min_four   -- for this text's walks alone
set_option linter.unusedVariables false
set_option linter.unusedSimpArgs false

/-! ### slices_Reverse_byte_byte: function 76 -/
def slices_Reverse_byte_byte.l0 : Nat → List Int → Int → Int → Option (List Int)
 | 0, _, _, _ => none
 | k + 1, x0, x2, x3 => if x2 < x3 then (if 0 ≤ x3 then (if x3 < (x0.length : Int) then (if 0 ≤ x2 then (if x2 < (x0.length : Int) then (slices_Reverse_byte_byte.l0 k ((x0.set (x2 : Int).toNat (rd x0 x3)).set (x3 : Int).toNat (rd x0 x2)) (wrap64 (x2 + 1)) (wrap64 (x3 - 1))) else (none)) else (none)) else (none)) else (none)) else (some x0)
def slices_Reverse_byte_byte.f (k : Nat) (l0 : List Int) : Option (List Int) := slices_Reverse_byte_byte.l0 k l0 0 (wrap64 ((l0.length : Int) - 1))
theorem slices_Reverse_byte_byte.mono_l : ∀ k, (∀ y0 y1 y2, LeO (slices_Reverse_byte_byte.l0 k y0 y1 y2) (slices_Reverse_byte_byte.l0 (k + 1) y0 y1 y2))
 | 0 => fun _ _ _ r h => by simp [slices_Reverse_byte_byte.l0] at h
 | k + 1 => by
  have ih0 := slices_Reverse_byte_byte.mono_l k
  ·intro y0 y1 y2
   unfold slices_Reverse_byte_byte.l0
   with_reducible repeat' first | exact ih0 _ _ _ | exact LeO.refl _ | exact LeO.none _ | refine LeO.ite ?_ ?_ | refine LeO.bind ?_ (fun _ => ?_)
theorem slices_Reverse_byte_byte.mono : ∀ a0 k, LeO (slices_Reverse_byte_byte.f k a0) (slices_Reverse_byte_byte.f (k + 1) a0) := by
 intro a0 k
 have ih0 := slices_Reverse_byte_byte.mono_l k
 unfold slices_Reverse_byte_byte.f
 with_reducible repeat' first | exact ih0 _ _ _ | exact LeO.refl _ | exact LeO.none _ | refine LeO.ite ?_ ?_ | refine LeO.bind ?_ (fun _ => ?_)
def slices_Reverse_byte_byte.T3 : Bool × List (List Nat × List Nat) := (true, [([], []), ([], []), ([], []), ([], []), ([], []), ([], []), ([4, 5], [4, 5]), ([6], [6]), ([], []), ([], []), ([8, 9], [8, 9]), ([10], [10]), ([0, 1, 0, 1, 4, 5, 6, 7, 11], [0, 1]), ([12, 7, 0, 1, 4, 5, 6, 7, 11], [7, 12]), ([2, 3, 0, 1, 2, 3, 4, 5, 6, 7, 8, 9, 10, 11, 12, 13], [2, 3]), ([14, 11, 13, 0, 1, 2, 3, 4, 5, 6, 7, 8, 9, 10, 11, 12, 13], [11, 14])])
def slices_Reverse_byte_byte.B3 : List Nat := [0, 0, 0, 0, 0, 0, 48, 112, 0, 0, 768, 1792, 4083, 8179, 16383, 32767]
theorem slices_Reverse_byte_byte.tab3 : rtab .any (opsOf Tryz.f76 3) = slices_Reverse_byte_byte.T3 := by kernel_rfl
theorem slices_Reverse_byte_byte.bits3 : waitsOk slices_Reverse_byte_byte.T3.2 slices_Reverse_byte_byte.B3 = true := by kernel_rfl
set_option maxHeartbeats 8000000 in
set_option maxRecDepth 100000 in
theorem slices_Reverse_byte_byte.calls (k : Nat) (P0_ : Nat → Prop) (u9000_ : Value) (l0 : List Int) (r : List Int) (w0 w : World) (hB : Below w0.heap.size w0 w) (ho0 : Kd.R (Kd.int .u8) 5 w w0.heap.size P0_ u9000_ l0) (h : slices_Reverse_byte_byte.f k l0 = some r) :
  Calls Tryz.prog 76 #[u9000_] w fun e w' => e = .returned (.tuple #[]) ∧ Kd.R (Kd.int .u8) 5 w' w0.heap.size (fun k_ => (P0_ k_ ∨ w.heap.size ≤ k_)) u9000_ r ∧ Below w0.heap.size w0 w' ∧ Kept w w' (fun k_ => P0_ k_) := by
 have HO0 := aM (show Kd.R (Kd.int .u8) 5 w w0.heap.size (fun k_ => (P0_ k_ ∨ w.heap.size ≤ k_)) u9000_ l0 from Kd.R_mono ho0 (fun k_ hk => (.inl hk)))
 have HK := aM (Kept.refl w (fun k_ => P0_ k_))
 have HW0 := aM hB.size
 have HB := aM hB
 clear hB
 have H := h; clear h; unfold slices_Reverse_byte_byte.f at H
 have H' := aM H
 clear H
 obtain ⟨Ao2, co2, eo2⟩ := Kd.R_slice HO0.out
 subst eo2
 go_enter Tryz.func76, Tryz.ntmps76
 go_wp2
 go_loopg [2, 3] k (fun kq v2 v3 w' => ∃ (x0_1 : List Int) (x2_1 : Int) (x3_1 : Int), v2 = .int .i64 x2_1 ∧ v3 = .int .i64 x3_1 ∧ Aside0 (slices_Reverse_byte_byte.l0 kq x0_1 x2_1 x3_1 = some r) ∧ Aside0 (kq ≤ k) ∧ Aside0 (Kd.R (Kd.int .u8) 5 w' w0.heap.size (fun k_ => (P0_ k_ ∨ w.heap.size ≤ k_)) (.slice Ao2 l0.length co2) x0_1) ∧ Aside0 (Kept w w' (fun k_ => P0_ k_)) ∧ Aside0 (Below w0.heap.size w0 w'))
 case atStart => exact ⟨(l0), (0), (wrap64 ((l0.length : Int) - 1)), rfl, rfl, H', ⟨Nat.le_refl _⟩, HO0, HK, HB⟩
 case round =>
  clear H'
  obtain ⟨x0_1, x2_1, x3_1, rfl, rfl, HA, HK1, HO_0, HK, HB⟩ := hrel
  have hl0_1 := (Kd.R_reads' HO_0.out).1
  rw [hl0_1] at HO_0
  cases gk with
  | zero => exact absurd HA.out (by simp [slices_Reverse_byte_byte.l0])
  | succ k1 =>
   have H := HA.out
   clear HA
   simp only [slices_Reverse_byte_byte.l0] at H
   replace H := iO H; obtain ⟨c3, H⟩ | ⟨c3, H⟩ := H
   ·have c3b0 := decide_eq_true c3
    clear c3
    replace H := iC H; obtain ⟨c4, H⟩ := H
    have c4b0 := decide_eq_true c4
    clear c4
    replace H := iC H; obtain ⟨c5, H⟩ := H
    have c5b0 := decide_eq_true c5
    clear c5
    replace H := iC H; obtain ⟨c6, H⟩ := H
    have c6b0 := decide_eq_true c6
    clear c6
    replace H := iN H; obtain ⟨c7b0, H⟩ := H
    obtain ⟨y268, Ny268, h_⟩ := yG (α := List Int) (x0_1.set (x2_1 : Int).toNat (rd x0_1 x3_1)); rw [← h_] at H; clear h_
    obtain ⟨y269, Ny269, h_⟩ := yG (α := List Int) (y268.set (x3_1 : Int).toNat (rd x0_1 x2_1)); rw [← h_] at H; clear h_
    have H' := aM H
    clear H
    try go_wp2
    have n0_ := aM (Kd.R_drew HO_0.out); have n1_ := aM (Kept.drew HK.out); have n2_ := aM (below_drew1 HB.out); clear HO_0 HK HB; have HO_0 := n0_; have HK := n1_; have HB := n2_; clear n0_ n1_ n2_; obtain ⟨ad266, e266, hx266_0, p266, q266⟩ := aZ (Kd.at_int (Kd.R_reads' HO_0.out).2.2 x3_1); cases e266; obtain ⟨ad267, e267, hx267_0, p267, q267⟩ := aZ (Kd.at_int (Kd.R_reads' HO_0.out).2.2 x2_1); cases e267; have p8 : 0 ≤ (x2_1 : Int) := oD; have q8 : (x2_1 : Int) < ((x0_1.length : Int) : Int) := oD
    obtain ⟨go8, co8, eo8, gb8, gl8, cl8, HG8⟩ := Kd.R_form HO_0.out (by omega)
    (first | cases eo8 | (injection eo8 with ea_ en_ ec_; (first | subst ea_ | (injection ea_ with ea_; subst ea_)); subst ec_; clear en_))
    have GB8 := aM gb8
    have GG8 := aM HG8
    clear gb8 gl8 HG8
    have HMgo8 := aM (show (P0_ go8 ∨ w.heap.size ≤ go8) from (HO_0.out.1 _ rfl))
    (first | simp only [add_plain] at hx266_0 | skip)
    (first | simp only [add_plain] at hx267_0 | skip)
    obtain ⟨hx8_0, hf8_0⟩ := Kd.R_celln 0 HO_0.out (x2_1 : Int) p8 q8; replace p8 := eq_true p8; replace q8 := eq_true q8
    have HP11 := Kd.R_putn HO_0.out (x2_1 : Int) (rd x0_1 x3_1)
    rw [← Ny268.out] at HP11
    have HQ11 := aM HP11
    clear HP11; obtain ⟨hx9_0, hf9_0, p9, q9⟩ := aC (Kd.R_celln 0 HQ11.out (x3_1 : Int))
    have HP12 := Kd.R_putn HQ11.out (x3_1 : Int) (rd x0_1 x2_1)
    rw [← Ny269.out] at HP12
    have HQ12 := aM HP12
    clear HP12
    refine start_ (n := 16) (S := fun w' => w'.cell? ⟨go8, (x3_1).toNat, none⟩ = some (.int .u8 (rd x0_1 x3_1)) ∧ w'.cell? ⟨go8, (x2_1).toNat, none⟩ = some (.int .u8 (rd x0_1 x2_1))) (ds := [13, 15]) #[F,F,F,F,F,F,F,F,F,F,F,F,F,F,F,F] (by kernel_rfl) rfl rfl ⟨hx266_0, hx267_0⟩ (fun hHeld => ?_); refine with_tabW slices_Reverse_byte_byte.tab3 slices_Reverse_byte_byte.bits3 (fun HT_ HW_ => ?_)
    generalize wr.drew = w10 at HO_0 HK HB GG8 HQ11 HQ12 hf8_0 hf9_0 hx266_0 hx267_0 hx8_0 hx9_0 hHeld ⊢
    refine pU 0 (some 14) #[T,F,F,F,F,F,F,F,F,F,F,F,F,F,F,F] HT_ ?_
    refine pU 1 (some 15) #[T,T,F,F,F,F,F,F,F,F,F,F,F,F,F,F] HT_ ?_
    refine pU 2 (some 16) #[T,T,T,F,F,F,F,F,F,F,F,F,F,F,F,F] HT_ ?_
    refine pU 3 (some 17) #[T,T,T,T,F,F,F,F,F,F,F,F,F,F,F,F] HT_ ?_
    refine pU 4 (some 18) #[T,T,T,T,T,F,F,F,F,F,F,F,F,F,F,F] HT_ ?_
    refine pU 5 (some 19) #[T,T,T,T,T,T,F,F,F,F,F,F,F,F,F,F] HT_ ?_
    refine pU 6 (some 20) #[T,T,T,T,T,T,T,F,F,F,F,F,F,F,F,F] HT_ ?_
    refine pU 8 (some 22) #[T,T,T,T,T,T,T,F,T,F,F,F,F,F,F,F] HT_ ?_
    refine pU 9 (some 23) #[T,T,T,T,T,T,T,F,T,T,F,F,F,F,F,F] HT_ ?_
    refine pU 10 (some 24) #[T,T,T,T,T,T,T,F,T,T,T,F,F,F,F,F] HT_ ?_
    refine take_ (i := 7) (N := some 21) (v := ?_) (a' := ?_) #[T,T,T,T,T,T,T,T,T,T,T,F,F,F,F,F] rfl rfl (take_ofW HT_.out HW_.out (by kernel_rfl)) (fun _ _ _ h => h) (Or.inl ⟨by rfl, ?_⟩) hHeld ?_ ?_
    rotate_left
    ·rintro w' ⟨s0, s1⟩
     go_simp
     with_reducible rfl
    rotate_left
    ·simp only [Act.put, sA, sB, sC, i64_w, i32_w]
     rfl
    refine take_ (i := 11) (N := some 25) (v := ?_) (a' := ?_) #[T,T,T,T,T,T,T,T,T,T,T,T,F,F,F,F] rfl rfl (take_ofW HT_.out HW_.out (by kernel_rfl)) (fun _ _ _ h => h) (Or.inl ⟨by rfl, ?_⟩) hHeld ?_ ?_
    rotate_left
    ·rintro w' ⟨s0, s1⟩
     go_simp
     with_reducible rfl
    rotate_left
    ·simp only [Act.put, sA, sB, sC, i64_w, i32_w]
     rfl
    refine pU 12 (some 26) #[T,T,T,T,T,T,T,T,T,T,T,T,T,F,F,F] HT_ ?_
    refine last_ (i := 13) (N := none) #[T,T,T,T,T,T,T,T,T,T,T,T,T,T,F,F] rfl rfl (one_of HT_.out (by kernel_rfl)) (by decide) (fun K hK => ?_)
    refine skip_ (w1 := ?_) (by rfl) rfl ?_ ?_
    rotate_left
    ·go_simp
     rfl
    refine hK.out _ _ ?_
    clear hK K
    refine pU 14 (some 27) #[T,T,T,T,T,T,T,T,T,T,T,T,T,T,T,F] HT_ ?_
    refine last_ (i := 15) (N := none) #[T,T,T,T,T,T,T,T,T,T,T,T,T,T,T,T] rfl rfl (one_of HT_.out (by kernel_rfl)) (by decide) (fun K hK => ?_)
    refine skip_ (w1 := ?_) (by rfl) rfl ?_ ?_
    rotate_left
    ·go_simp
     rfl
    refine hK.out _ _ ?_
    clear hK K
    refine done_ (done_of HT_.out (by kernel_rfl)) ?_
    try go_wp2
    (try simp only [← hl0_1])
    go_roundg k1
    case measure => have := HK1.out; omega
    case rel => exact ⟨(y269), (wrap64 (x2_1 + 1)), (wrap64 (x3_1 - 1)), rfl, rfl, H', ⟨by have := HK1.out; omega⟩, ⟨by (try simp only [hl0_1]); (with_reducible repeat (first | apply rA | apply rN | apply rD)); exact HQ12.out⟩, ⟨by repeat first | exact HK.out | apply Kept.alloc | apply Kept.drewN | apply Kept.drew | refine Kept.setCell ?_ HMgo8.out _ | refine Kept.setCell ?_ HMgo8.out _⟩, ⟨by repeat first | exact HB.out | apply bA | apply bN | apply bD | refine bS ?_ GB8.out | refine bS ?_ GB8.out⟩⟩
   ·have c3b0 := decide_eq_false c3
    clear c3
    obtain rfl := Option.some.inj H
    go_wp2
    first | go_end0 | ((try simp only [Exit.inBlock, Exit.then]); refine bodyPost_ret (results_none rfl _ _ _) rfl ?_)
    exact ⟨rfl, (by first | exact HO_0.out | (simp only [hl0_1]; exact HO_0.out)), HB.out, HK.out⟩

/-! ### impl_reversed: function 45 (told by hand) -/
/-- impl.reversed: a text from its last byte to its first. -/
def impl_reversed.f (a0 : ByteArray) : Option ByteArray := if a0.size ≤ 4611686018427387904 then some ⟨a0.data.toList.reverse.toArray⟩ else none
set_option maxHeartbeats 8000000 in
set_option maxRecDepth 100000 in
theorem impl_reversed.calls (a0 : ByteArray) (r : ByteArray) (w : World) (h : impl_reversed.f a0 = some r) :
  Calls Tryz.prog 45 #[.string a0] w fun e w' => e = .returned (.string r) ∧ Below w.heap.size w w' := by
 unfold impl_reversed.f at h
 by_cases c0 : ¬ (a0.size ≤ 4611686018427387904)
 ·rw [if_neg c0] at h; exact absurd h (by simp)
 replace c0 := Decidable.not_not.mp c0
 rw [if_pos c0] at h
 obtain rfl := Option.some.inj h
 clear h
 have hconv := Lib.run_convert_string_bytes (P := Tryz.prog) w 9 42 5 a0 Tryz.underlying9 Tryz.underlying42 Tryz.underlying5
 have hat := Lib.bytesWorld_at_new w 5 a0
 have hcells : ∀ j, j < a0.size → (Lib.bytesWorld w 5 a0).cell? ⟨w.heap.size, j, none⟩ = some (.int .u8 (a0.data.toList.getD j 0).toNat) := fun j hj => Lib.bytesWorld_cell w 5 a0 j hj
 have hbel : Below w.heap.size w (Lib.bytesWorld w 5 a0) := bytes_below (Below.refl _ _) (Nat.le_refl _) 5 a0
 have hfz : ∀ j, j < a0.size → (Lib.bytesWorld w 5 a0).frozen? ⟨w.heap.size, j, none⟩ = false := by
  intro j hj
  have hs : a0.size ≤ (Lib.bytesCells w 5 a0).size := by simp [Lib.bytesCells, Array.size_append]
  simp [World.frozen?, hat]
  omega
 have hlen : a0.data.toList.length = a0.size := by rw [Array.length_toList]; rfl
 obtain ⟨zs, hzs⟩ : ∃ zs : List Int, zs = a0.data.toList.map (fun b : UInt8 => (b.toNat : Int)) := ⟨_, rfl⟩
 have hzl : zs.length = a0.size := by rw [hzs, List.length_map, hlen]
 have hH : Go.Sort.Holds (Value.int .u8) (Lib.bytesWorld w 5 a0) w.heap.size 0 zs.toArray := by
  intro j hj
  have hj' : j < a0.size := by rw [← hzl]; simpa using hj
  rw [Nat.zero_add]
  refine ⟨?_, hfz j hj'⟩
  rw [hcells j hj']
  have hjl : j < a0.data.toList.length := by rw [hlen]; exact hj'
  have e1 : zs.toArray[j]! = ((a0.data.toList.getD j 0).toNat : Int) := by
   rw [getElem!_pos _ j hj]
   subst hzs
   simp [List.getD, List.getElem?_eq_getElem hjl]
  rw [e1]
 have hrev := Tryz.reverse_bytes w.heap.size 0 (grownCap w a0.size 0 5) zs (Lib.bytesWorld w 5 a0) hH (by omega)
 rw [hzl] at hrev
 have hcall : Calls Tryz.prog 76 #[.slice (some ⟨w.heap.size, 0, none⟩) a0.size (grownCap w a0.size 0 5)] (Lib.bytesWorld w 5 a0) fun e w' => e = .returned (.tuple #[]) ∧ Below w.heap.size w w' ∧ (convert 42 9 (.slice (some ⟨w.heap.size, 0, none⟩) a0.size (grownCap w a0.size 0 5))).run Tryz.prog w' = .ok (.string ⟨a0.data.toList.reverse.toArray⟩) w' := by
  refine hrev.mono ?_
  rintro e w' ⟨he, n, rfl⟩
  refine ⟨he, Tryz.below_put hbel (Nat.le_refl _), ?_⟩
  have hH2 : Go.Sort.Holds (Value.int .u8) (Go.Sort.ahead (Lib.bytesWorld w 5 a0) n) w.heap.size 0 zs.toArray := hH
  have hs2 : zs.reverse.toArray.size = zs.toArray.size := by simp
  have h := run_convert_bytes_back (P := Tryz.prog) (Go.Sort.putRow (Value.int .u8) (Go.Sort.ahead (Lib.bytesWorld w 5 a0) n) w.heap.size 0 zs.reverse.toArray) 42 9 5 ⟨w.heap.size, 0, none⟩ (grownCap w a0.size 0 5) a0.data.toList.reverse Tryz.underlying42 Tryz.underlying5 Tryz.underlying9 (fun j hj => by
   have hj2 : j < zs.reverse.toArray.size := by
    rw [List.length_reverse, hlen] at hj
    rw [hs2]
    simpa [hzl] using hj
   have hc := Go.Sort.cell?_putRow (Value.int .u8) (Go.Sort.ahead (Lib.bytesWorld w 5 a0) n) w.heap.size 0 zs.toArray zs.reverse.toArray hH2 hs2 j hj2
   rw [Nat.zero_add] at hc
   rw [add_plain, hc, getElem!_pos _ j hj2]
   subst hzs
   simp)
  rw [List.length_reverse, hlen] at h
  exact h
 clear hH hrev hcells hat hfz hzl hzs hlen
 generalize hW1 : Lib.bytesWorld w 5 a0 = W1 at hconv hbel hcall
 generalize grownCap w a0.size 0 5 = cap at hconv hcall
 clear hW1 hbel
 have HC := aM hcall
 clear hcall
 go_enter Tryz.func45, Tryz.ntmps45
 go_wp2_with (first | ((with_reducible refine gC 76 rfl ?_); refine gL (some 7) Tryz.func76 #[.slice (some ⟨w.heap.size, 0, none⟩) a0.size cap] ?_; (with_reducible refine HC.out.mono ?_); rintro e w2 ⟨rfl, hb, hback⟩; refine ⟨_, rfl, ?_⟩; have HB2 := aM hb; clear hb))
 go_ret
 exact ⟨rfl, HB2.out⟩

/-! ### impl_TurnKeys: function 13 -/
def impl_TurnKeys.l0 : Nat → List ByteArray → List ByteArray → Int → Option (List ByteArray × Bool)
 | 0, _, _, _ => none
 | k + 1, x0, x4, x5 => if x5 ≥ 0 then (if 0 ≤ x5 then (if x5 < (x0.length : Int) then ((impl_reversed.f (rdOf ByteArray.empty x0 x5)).bind fun t272 => (if x4.length < 8796093022208 then (impl_TurnKeys.l0 k x0 (x4 ++ [t272]) (wrap64 (x5 - 1))) else (none))) else (none)) else (none)) else (some (x4, true))
def impl_TurnKeys.f (k : Nat) (l0 : List ByteArray) : Option (List ByteArray × Bool) := (impl_AreKeys.f k l0).bind fun t270 => (if t270 = true then (impl_TurnKeys.l0 k l0 ([] : List ByteArray) (wrap64 ((l0.length : Int) - 1))) else (some (([] : List ByteArray), false)))
theorem impl_TurnKeys.mono_l : ∀ k, (∀ y0 y1 y2, LeO (impl_TurnKeys.l0 k y0 y1 y2) (impl_TurnKeys.l0 (k + 1) y0 y1 y2))
 | 0 => fun _ _ _ r h => by simp [impl_TurnKeys.l0] at h
 | k + 1 => by
  have ih0 := impl_TurnKeys.mono_l k
  ·intro y0 y1 y2
   unfold impl_TurnKeys.l0
   with_reducible repeat' first | exact ih0 _ _ _ | exact impl_AreKeys.mono _ _ | exact LeO.refl _ | exact LeO.none _ | refine LeO.ite ?_ ?_ | refine LeO.bind ?_ (fun _ => ?_)
theorem impl_TurnKeys.mono : ∀ a0 k, LeO (impl_TurnKeys.f k a0) (impl_TurnKeys.f (k + 1) a0) := by
 intro a0 k
 have ih0 := impl_TurnKeys.mono_l k
 unfold impl_TurnKeys.f
 with_reducible repeat' first | exact ih0 _ _ _ | exact impl_AreKeys.mono _ _ | exact LeO.refl _ | exact LeO.none _ | refine LeO.ite ?_ ?_ | refine LeO.bind ?_ (fun _ => ?_)
set_option maxHeartbeats 8000000 in
set_option maxRecDepth 100000 in
theorem impl_TurnKeys.calls (k : Nat) (A0 : Option Addr) (c0 : Nat) (l0 : List ByteArray) (r1 : List ByteArray) (r2 : Bool) (w : World) (hr0 : Kd.C Kd.string w A0 l0.length l0) (hc0 : l0.length ≤ c0) (h : impl_TurnKeys.f k l0 = some (r1, r2)) :
  Calls Tryz.prog 13 #[.slice A0 l0.length c0] w fun e w' => ∃ v0_ : Value, e = .returned (.tuple #[v0_, .bool r2]) ∧ Kd.R Kd.string 9 w' w.heap.size (fun _ => True) v0_ r1 ∧ Below w.heap.size w w' := by
 have HR0 := aM hr0
 have HC0 := aM hc0
 clear hr0 hc0
 have HB := aM (Below.refl w.heap.size w)
 have H := h; clear h; unfold impl_TurnKeys.f at H
 replace H := jS H; obtain ⟨t270, A2, H⟩ := H
 by_cases c3 : t270 = true
 ·subst c3
  replace H := jT H
  have H' := aM H
  clear H
  go_enter Tryz.func13, Tryz.ntmps13
  go_wp2_with (first | ((with_reducible refine gC 18 rfl ?_); refine gL (some 7) Tryz.func18 #[.slice A0 l0.length c0] ?_; (with_reducible refine (impl_AreKeys.calls k _ _ l0 true _ ?side1 ?side2 A2.out).mono ?_); (case side1 => repeat (first | exact HR0.out | (with_reducible refine cA ?_ _) | (with_reducible refine cN ?_ _) | (with_reducible refine cD ?_))); (case side2 => exact HC0.out); rintro e w4 ⟨rfl, hb⟩; refine ⟨_, rfl, ?_⟩; replace HB := aM (below_step HB.out hb); (try clear hb)))
  go_loopg [4, 5] k (fun kq v4 v5 w' => ∃ (x4_1 : List ByteArray) (x5_1 : Int), v5 = .int .i64 x5_1 ∧ Aside0 (impl_TurnKeys.l0 kq l0 x4_1 x5_1 = some (r1, r2)) ∧ Aside0 (kq ≤ k) ∧ Aside0 (Kd.R Kd.string 9 w' w.heap.size (fun _ => True) v4 x4_1) ∧ Aside0 (Below w.heap.size w w'))
  case atStart => exact ⟨(([] : List ByteArray)), (wrap64 ((l0.length : Int) - 1)), rfl, H', ⟨Nat.le_refl _⟩, ⟨by first | exact Kd.R_nil _ _ _ _ _ | exact Kd.N_nil _ _ _ _ _ | exact Kd.V_nil _ _ _ _ _ | exact Kd.Q_nil _ _ _ _ _ | exact Kd.S_nil _ _ _ _ _⟩, HB⟩
  case round =>
   clear H'
   obtain ⟨x4_1, x5_1, rfl, HA, HK1, HO_4, HB⟩ := hrel
   cases gk with
   | zero => exact absurd HA.out (by simp [impl_TurnKeys.l0])
   | succ k1 =>
    have H := HA.out
    clear HA
    simp only [impl_TurnKeys.l0] at H
    replace H := iO H; obtain ⟨c5, H⟩ | ⟨c5, H⟩ := H
    ·have c5b0 := decide_eq_true c5
     clear c5
     replace H := iC H; obtain ⟨c6, H⟩ := H
     have c6b0 := decide_eq_true c6
     clear c6
     replace H := iN H; obtain ⟨c7b0, H⟩ := H
     replace H := jS H; obtain ⟨t272, A8, H⟩ := H
     replace H := iC H; obtain ⟨c9, H⟩ := H
     have LMc9 := aM c9
     clear c9
     obtain ⟨y273, Ny273, h_⟩ := yG (α := List ByteArray) (x4_1 ++ [t272]); rw [← h_] at H; clear h_
     have H' := aM H
     clear H; have p271 : 0 ≤ (x5_1 : Int) := oD; have q271 : x5_1 < (l0.length : Int) := oD; obtain ⟨ad271, e271, hx271_0⟩ := Kd.at_string HR0.out x5_1 p271 q271; cases e271
     replace hx271_0 := (HB.out.cell (World.block_lt_of_cell? w _ hx271_0)).trans hx271_0
     replace p271 := eq_true p271; replace q271 := eq_true q271
     go_wp2_with (first | ((with_reducible refine gC 45 rfl ?_); refine gL (some 21) Tryz.func45 #[.string (rdOf ByteArray.empty l0 x5_1)] ?_; (with_reducible refine (impl_reversed.calls (rdOf ByteArray.empty l0 x5_1) t272 _ A8.out).mono ?_); rintro e w10 ⟨rfl, hb⟩; refine ⟨_, rfl, ?_⟩; replace HO_4 := aM (Kd.R_below HO_4.out hb); replace HB := aM (below_step HB.out hb); (try clear hb)) | ((with_reducible refine gate_builtin (b := .append) (xs := #[.tmp 16, .tmp 22]) rfl ?_); at_builtin; refine Kd.R_append Kd.string (w0 := w) w.heap.size rfl (.tmp 16) (.tmp 22) 22 9 (.string ⟨#[]⟩) 16 rfl Tryz.underlying22 info9 rfl (by decide) (by omega) u4 x4_1 t272 [.string t272] (fun _ => True) (fun _ => False) rfl rfl ?aP (fun _ hk => hk.elim) ?aF ?aO ?aB ?aS ?aL ?_; (case aP => exact rfl); (case aB => exact HB.out); (case aF => exact (fun _ _ => trivial)); (case aO => exact HO_4.out); (case aS => exact (below_size HB.out)); (case aL => have := LMc9.out; omega); intro v274 w11 ho hb hg hat; rw [← Ny273.out] at ho; replace HB := aM (hb); have HO275 := aM (ho); clear ho hb hg hat))
     go_roundg k1
     case measure => have := HK1.out; omega
     case rel => exact ⟨(y273), (wrap64 (x5_1 - 1)), rfl, H', ⟨by have := HK1.out; omega⟩, HO275, HB⟩
    ·have c5b0 := decide_eq_false c5
     clear c5
     simp only [Option.some.injEq, Prod.mk.injEq] at H
     obtain ⟨rfl, rfl⟩ := H
     go_wp2
     go_ret2
     exact ⟨_, rfl, HO_4.out, HB.out⟩
 ·replace c3 := Bool.eq_false_iff.mpr c3
  subst c3
  replace H := jF H
  simp only [Option.some.injEq, Prod.mk.injEq] at H
  obtain ⟨rfl, rfl⟩ := H
  go_enter Tryz.func13, Tryz.ntmps13
  go_wp2_with (first | ((with_reducible refine gC 18 rfl ?_); refine gL (some 7) Tryz.func18 #[.slice A0 l0.length c0] ?_; (with_reducible refine (impl_AreKeys.calls k _ _ l0 false _ ?side1 ?side2 A2.out).mono ?_); (case side1 => repeat (first | exact HR0.out | (with_reducible refine cA ?_ _) | (with_reducible refine cN ?_ _) | (with_reducible refine cD ?_))); (case side2 => exact HC0.out); rintro e w12 ⟨rfl, hb⟩; refine ⟨_, rfl, ?_⟩; replace HB := aM (below_step HB.out hb); (try clear hb)))
  go_ret2
  exact ⟨_, rfl, by first | exact Kd.R_nil _ _ _ _ _ | exact Kd.N_nil _ _ _ _ _ | exact Kd.V_nil _ _ _ _ _ | exact Kd.Q_nil _ _ _ _ _ | exact Kd.S_nil _ _ _ _ _, HB.out⟩

/-! ### spec_keBack: function 46 -/
def spec_keBack.l0 : Nat → ByteArray → ByteArray → Int → Option (ByteArray)
 | 0, _, _, _ => none
 | k + 1, x0, x3, x4 => if x4 < (x0.size : Int) then (if 0 ≤ x4 then (if x4 ≤ (wrap64 (x4 + 1)) then (if (wrap64 (x4 + 1)) ≤ (x0.size : Int) then (if (x0.extract (x4 : Int).toNat ((wrap64 (x4 + 1)) : Int).toNat).size + x3.size ≤ 9223372036854775807 then (spec_keBack.l0 k x0 ((x0.extract (x4 : Int).toNat ((wrap64 (x4 + 1)) : Int).toNat) ++ x3) (wrap64 (x4 + 1))) else (none)) else (none)) else (none)) else (none)) else (some x3)
def spec_keBack.f (k : Nat) (a0 : ByteArray) : Option (ByteArray) := spec_keBack.l0 k a0 (⟨#[]⟩ : ByteArray) 0
theorem spec_keBack.mono_l : ∀ k, (∀ y0 y1 y2, LeO (spec_keBack.l0 k y0 y1 y2) (spec_keBack.l0 (k + 1) y0 y1 y2))
 | 0 => fun _ _ _ r h => by simp [spec_keBack.l0] at h
 | k + 1 => by
  have ih0 := spec_keBack.mono_l k
  ·intro y0 y1 y2
   unfold spec_keBack.l0
   with_reducible repeat' first | exact ih0 _ _ _ | exact LeO.refl _ | exact LeO.none _ | refine LeO.ite ?_ ?_ | refine LeO.bind ?_ (fun _ => ?_)
theorem spec_keBack.mono : ∀ a0 k, LeO (spec_keBack.f k a0) (spec_keBack.f (k + 1) a0) := by
 intro a0 k
 have ih0 := spec_keBack.mono_l k
 unfold spec_keBack.f
 with_reducible repeat' first | exact ih0 _ _ _ | exact LeO.refl _ | exact LeO.none _ | refine LeO.ite ?_ ?_ | refine LeO.bind ?_ (fun _ => ?_)
set_option maxHeartbeats 8000000 in
set_option maxRecDepth 100000 in
theorem spec_keBack.calls (k : Nat) (a0 : ByteArray) (r : ByteArray) (w : World) (h : spec_keBack.f k a0 = some r) :
  Calls Tryz.prog 46 #[.string a0] w fun e w' => e = .returned (.string r) ∧ Drawn0 w w' := by
 have H := h; clear h; unfold spec_keBack.f at H
 have H' := aM H
 clear H
 go_enter Tryz.func46, Tryz.ntmps46
 go_wp2
 go_loopg [3, 4] k (fun kq v3 v4 w' => ∃ (x3_1 : ByteArray) (x4_1 : Int), v3 = .string x3_1 ∧ v4 = .int .i64 x4_1 ∧ Aside0 (spec_keBack.l0 kq a0 x3_1 x4_1 = some r) ∧ Aside0 (kq ≤ k) ∧ Drawn0 w w')
 case atStart => exact ⟨((⟨#[]⟩ : ByteArray)), (0), rfl, rfl, H', ⟨Nat.le_refl _⟩, by repeat (first | exact Drawn0.refl _ | apply Drawn0.step)⟩
 case round =>
  clear H'
  obtain ⟨x3_1, x4_1, rfl, rfl, HA, HK1, ⟨m1, rfl⟩⟩ := hrel
  cases gk with
  | zero => exact absurd HA.out (by simp [spec_keBack.l0])
  | succ k1 =>
   have H := HA.out
   clear HA
   simp only [spec_keBack.l0] at H
   replace H := iO H; obtain ⟨c2, H⟩ | ⟨c2, H⟩ := H
   ·have c2b0 := decide_eq_true c2
    clear c2
    replace H := iC H; obtain ⟨c3, H⟩ := H
    have c3b0 := eq_true c3
    have c3b1 := decide_eq_true c3
    clear c3
    replace H := iC H; obtain ⟨c4, H⟩ := H
    have c4b0 := eq_true c4
    have c4b1 := decide_eq_true c4
    replace H := iC H; obtain ⟨c5, H⟩ := H
    have c5b0 := eq_true c5
    have c5b1 := decide_eq_true c5
    replace H := iC H; obtain ⟨c6, H⟩ := H
    have c6b0 := eq_true c6
    have c6b1 := decide_eq_true c6
    try (have c6s := c6; simp at c6s)
    try have c6b2 : (9223372036854775807 < (a0.extract (x4_1 : Int).toNat ((wrap64 (x4_1 + 1)) : Int).toNat).size + x3_1.size) = False := eq_false (Nat.not_lt.2 c6)
    have H' := aM H
    clear H
    go_wp2
    go_roundg k1
    case measure => have := HK1.out; omega
    case rel => exact ⟨((a0.extract (x4_1 : Int).toNat ((wrap64 (x4_1 + 1)) : Int).toNat) ++ x3_1), (wrap64 (x4_1 + 1)), rfl, rfl, H', ⟨by have := HK1.out; omega⟩, by repeat (first | exact Drawn0.refl _ | apply Drawn0.step)⟩
   ·have c2b0 := decide_eq_false c2
    clear c2
    obtain rfl := Option.some.inj H
    go_wp2
    go_ret
    exact ⟨rfl, by repeat (first | exact Drawn0.refl _ | apply Drawn0.step)⟩

/-! ### spec_TurnKeys: function 14 -/
def spec_TurnKeys.l0 : Nat → List ByteArray → List ByteArray → Int → Option (List ByteArray × Bool)
 | 0, _, _, _ => none
 | k + 1, x0, x4, x5 => if x5 ≥ 0 then (if 0 ≤ x5 then (if x5 < (x0.length : Int) then ((spec_keBack.f k (rdOf ByteArray.empty x0 x5)).bind fun t278 => (if x4.length < 8796093022208 then (spec_TurnKeys.l0 k x0 (x4 ++ [t278]) (wrap64 (x5 - 1))) else (none))) else (none)) else (none)) else (some (x4, true))
def spec_TurnKeys.f (k : Nat) (l0 : List ByteArray) : Option (List ByteArray × Bool) := (spec_keGood.f k l0).bind fun t276 => (if t276 = true then (spec_TurnKeys.l0 k l0 ([] : List ByteArray) (wrap64 ((l0.length : Int) - 1))) else (some (([] : List ByteArray), false)))
theorem spec_TurnKeys.mono_l : ∀ k, (∀ y0 y1 y2, LeO (spec_TurnKeys.l0 k y0 y1 y2) (spec_TurnKeys.l0 (k + 1) y0 y1 y2))
 | 0 => fun _ _ _ r h => by simp [spec_TurnKeys.l0] at h
 | k + 1 => by
  have ih0 := spec_TurnKeys.mono_l k
  ·intro y0 y1 y2
   unfold spec_TurnKeys.l0
   with_reducible repeat' first | exact ih0 _ _ _ | exact spec_keBack.mono _ _ | exact spec_keGood.mono _ _ | exact LeO.refl _ | exact LeO.none _ | refine LeO.ite ?_ ?_ | refine LeO.bind ?_ (fun _ => ?_)
theorem spec_TurnKeys.mono : ∀ a0 k, LeO (spec_TurnKeys.f k a0) (spec_TurnKeys.f (k + 1) a0) := by
 intro a0 k
 have ih0 := spec_TurnKeys.mono_l k
 unfold spec_TurnKeys.f
 with_reducible repeat' first | exact ih0 _ _ _ | exact spec_keBack.mono _ _ | exact spec_keGood.mono _ _ | exact LeO.refl _ | exact LeO.none _ | refine LeO.ite ?_ ?_ | refine LeO.bind ?_ (fun _ => ?_)
set_option maxHeartbeats 8000000 in
set_option maxRecDepth 100000 in
theorem spec_TurnKeys.calls (k : Nat) (A0 : Option Addr) (c0 : Nat) (l0 : List ByteArray) (r1 : List ByteArray) (r2 : Bool) (w : World) (hr0 : Kd.C Kd.string w A0 l0.length l0) (hc0 : l0.length ≤ c0) (h : spec_TurnKeys.f k l0 = some (r1, r2)) :
  Calls Tryz.prog 14 #[.slice A0 l0.length c0] w fun e w' => ∃ v0_ : Value, e = .returned (.tuple #[v0_, .bool r2]) ∧ Kd.R Kd.string 9 w' w.heap.size (fun _ => True) v0_ r1 ∧ Below w.heap.size w w' := by
 have HR0 := aM hr0
 have HC0 := aM hc0
 clear hr0 hc0
 have HB := aM (Below.refl w.heap.size w)
 have H := h; clear h; unfold spec_TurnKeys.f at H
 replace H := jS H; obtain ⟨t276, A2, H⟩ := H
 by_cases c3 : t276 = true
 ·subst c3
  replace H := jT H
  have H' := aM H
  clear H
  go_enter Tryz.func14, Tryz.ntmps14
  go_wp2_with (first | ((with_reducible refine gC 35 rfl ?_); refine gL (some 7) Tryz.func35 #[.slice A0 l0.length c0] ?_; (with_reducible refine (spec_keGood.calls k _ _ l0 true _ ?side1 ?side2 A2.out).mono ?_); (case side1 => repeat (first | exact HR0.out | (with_reducible refine cA ?_ _) | (with_reducible refine cN ?_ _) | (with_reducible refine cD ?_))); (case side2 => exact HC0.out); rintro e w' ⟨rfl, ⟨nd, rfl⟩⟩; refine ⟨_, rfl, ?_⟩))
  go_loopg [4, 5] k (fun kq v4 v5 w' => ∃ (x4_1 : List ByteArray) (x5_1 : Int), v5 = .int .i64 x5_1 ∧ Aside0 (spec_TurnKeys.l0 kq l0 x4_1 x5_1 = some (r1, r2)) ∧ Aside0 (kq ≤ k) ∧ Aside0 (Kd.R Kd.string 9 w' w.heap.size (fun _ => True) v4 x4_1) ∧ Aside0 (Below w.heap.size w w'))
  case atStart => exact ⟨(([] : List ByteArray)), (wrap64 ((l0.length : Int) - 1)), rfl, H', ⟨Nat.le_refl _⟩, ⟨by first | exact Kd.R_nil _ _ _ _ _ | exact Kd.N_nil _ _ _ _ _ | exact Kd.V_nil _ _ _ _ _ | exact Kd.Q_nil _ _ _ _ _ | exact Kd.S_nil _ _ _ _ _⟩, ⟨bQ⟩⟩
  case round =>
   clear H'
   obtain ⟨x4_1, x5_1, rfl, HA, HK1, HO_4, HB⟩ := hrel
   cases gk with
   | zero => exact absurd HA.out (by simp [spec_TurnKeys.l0])
   | succ k1 =>
    have H := HA.out
    clear HA
    simp only [spec_TurnKeys.l0] at H
    replace H := iO H; obtain ⟨c4, H⟩ | ⟨c4, H⟩ := H
    ·have c4b0 := decide_eq_true c4
     clear c4
     replace H := iC H; obtain ⟨c5, H⟩ := H
     have c5b0 := decide_eq_true c5
     clear c5
     replace H := iN H; obtain ⟨c6b0, H⟩ := H
     replace H := jS H; obtain ⟨t278, A7, H⟩ := H
     replace H := iC H; obtain ⟨c8, H⟩ := H
     have LMc8 := aM c8
     clear c8
     obtain ⟨y279, Ny279, h_⟩ := yG (α := List ByteArray) (x4_1 ++ [t278]); rw [← h_] at H; clear h_
     have H' := aM H
     clear H; have p277 : 0 ≤ (x5_1 : Int) := oD; have q277 : x5_1 < (l0.length : Int) := oD; obtain ⟨ad277, e277, hx277_0⟩ := Kd.at_string HR0.out x5_1 p277 q277; cases e277
     replace hx277_0 := (HB.out.cell (World.block_lt_of_cell? w _ hx277_0)).trans hx277_0
     replace p277 := eq_true p277; replace q277 := eq_true q277
     go_wp2_with (first | ((with_reducible refine gC 46 rfl ?_); refine gL (some 21) Tryz.func46 #[.string (rdOf ByteArray.empty l0 x5_1)] ?_; (with_reducible refine (spec_keBack.calls k1 (rdOf ByteArray.empty l0 x5_1) t278 _ A7.out).mono ?_); rintro e w' ⟨rfl, ⟨nd, rfl⟩⟩; refine ⟨_, rfl, ?_⟩) | ((with_reducible refine gate_builtin (b := .append) (xs := #[.tmp 16, .tmp 22]) rfl ?_); at_builtin; refine Kd.R_append Kd.string (w0 := w) w.heap.size rfl (.tmp 16) (.tmp 22) 22 9 (.string ⟨#[]⟩) 16 rfl Tryz.underlying22 info9 rfl (by decide) (by omega) u4 x4_1 t278 [.string t278] (fun _ => True) (fun _ => False) rfl rfl ?aP (fun _ hk => hk.elim) ?aF ?aO ?aB ?aS ?aL ?_; (case aP => exact rfl); (case aB => exact bQ); (case aF => exact (fun _ _ => trivial)); (case aO => exact (rQ HO_4.out)); (case aS => exact (below_size bQ)); (case aL => have := LMc8.out; omega); intro v280 w9 ho hb hg hat; rw [← Ny279.out] at ho; replace HB := aM (hb); have HO281 := aM (ho); clear ho hb hg hat))
     go_roundg k1
     case measure => have := HK1.out; omega
     case rel => exact ⟨(y279), (wrap64 (x5_1 - 1)), rfl, H', ⟨by have := HK1.out; omega⟩, HO281, HB⟩
    ·have c4b0 := decide_eq_false c4
     clear c4
     simp only [Option.some.injEq, Prod.mk.injEq] at H
     obtain ⟨rfl, rfl⟩ := H
     go_wp2
     go_ret2
     exact ⟨_, rfl, HO_4.out, HB.out⟩
 ·replace c3 := Bool.eq_false_iff.mpr c3
  subst c3
  replace H := jF H
  simp only [Option.some.injEq, Prod.mk.injEq] at H
  obtain ⟨rfl, rfl⟩ := H
  go_enter Tryz.func14, Tryz.ntmps14
  go_wp2_with (first | ((with_reducible refine gC 35 rfl ?_); refine gL (some 7) Tryz.func35 #[.slice A0 l0.length c0] ?_; (with_reducible refine (spec_keGood.calls k _ _ l0 false _ ?side1 ?side2 A2.out).mono ?_); (case side1 => repeat (first | exact HR0.out | (with_reducible refine cA ?_ _) | (with_reducible refine cN ?_ _) | (with_reducible refine cD ?_))); (case side2 => exact HC0.out); rintro e w' ⟨rfl, ⟨nd, rfl⟩⟩; refine ⟨_, rfl, ?_⟩))
  go_ret2
  exact ⟨_, rfl, by first | exact Kd.R_nil _ _ _ _ _ | exact Kd.N_nil _ _ _ _ _ | exact Kd.V_nil _ _ _ _ _ | exact Kd.Q_nil _ _ _ _ _ | exact Kd.S_nil _ _ _ _ _, bQ⟩

/-! ### strings_Join: function 47 (told by hand) -/
/-- strings.Join: the shelf's contract. -/
def strings_Join.f (l0 : List ByteArray) (a1 : ByteArray) : Option ByteArray :=
 if 1 ≤ l0.length ∧ l0.length ≤ 1000 ∧ (Lib.join (l0.map (·.data.toList)) a1.data.toList).length ≤ 100000000 then some ⟨(Lib.join (l0.map (·.data.toList)) a1.data.toList).toArray⟩ else none
set_option maxHeartbeats 8000000 in
set_option maxRecDepth 100000 in
theorem strings_Join.calls (A0 : Option Addr) (c0 : Nat) (l0 : List ByteArray) (a1 : ByteArray) (r : ByteArray) (w : World) (hr0 : Kd.C Kd.string w A0 l0.length l0) (hc0 : l0.length ≤ c0) (h : strings_Join.f l0 a1 = some r) :
  Calls Tryz.prog 47 #[.slice A0 l0.length c0, .string a1] w fun e w' => e = .returned (.string r) ∧ Below w.heap.size w w' := by
 unfold strings_Join.f at h
 by_cases c1 : 1 ≤ l0.length ∧ l0.length ≤ 1000 ∧ (Lib.join (l0.map (·.data.toList)) a1.data.toList).length ≤ 100000000
 ·rw [if_pos c1] at h
  obtain rfl := Option.some.inj h
  obtain ⟨ad, e, hx0⟩ := Kd.at_string hr0 0 (by decide) (by omega)
  subst e
  obtain ⟨b, o, sp⟩ := ad
  cases sp with
  | some v =>
   exfalso
   have hn : w.cell? (⟨b, o, some v⟩ : Addr) = none := by
    unfold World.cell?
    split <;> simp
   have hx1 : w.cell? (⟨b, o, some v⟩ : Addr) = some (.string (rdOf ByteArray.empty l0 0)) := hx0
   rw [hn] at hx1
   cases hx1
  | none =>
   have hcells : ∀ (j : Nat) x, l0[j]? = some x → w.cell? ⟨b, o + j, none⟩ = some (.string x) := by
    intro j x hj
    obtain ⟨hjl, hjx⟩ := List.getElem?_eq_some_iff.1 hj
    obtain ⟨ad2, e2, hx2⟩ := Kd.at_string hr0 (j : Int) (Int.natCast_nonneg j) (Int.ofNat_lt.2 hjl)
    cases e2
    have hrd : rdOf ByteArray.empty l0 (j : Int) = x := by
     show l0.getD j _ = x
     simp [List.getD, hj]
    rw [hrd, Int.toNat_natCast, Addr.add_lit] at hx2
    exact hx2
   have hb0 := World.block_lt_of_cell? w _ hx0
   exact Tryz.strings_Join b o c0 l0 a1 w hcells hb0 (by omega) hc0 (by omega)
 ·rw [if_neg c1] at h
  cases h

/-! ### impl_KeysText: function 15 -/
def impl_KeysText.f (k : Nat) (l0 : List ByteArray) : Option (ByteArray × Bool) := (impl_AreKeys.f k l0).bind fun t282 => (if t282 = true then ((strings_Join.f l0 (⟨#[47]⟩ : ByteArray)).bind fun t283 => (some (t283, true))) else (some ((⟨#[]⟩ : ByteArray), false)))
theorem impl_KeysText.mono : ∀ a0 k, LeO (impl_KeysText.f k a0) (impl_KeysText.f (k + 1) a0) := by
 intro a0 k
 unfold impl_KeysText.f
 with_reducible repeat' first | exact impl_AreKeys.mono _ _ | exact LeO.refl _ | exact LeO.none _ | refine LeO.ite ?_ ?_ | refine LeO.bind ?_ (fun _ => ?_)
set_option maxHeartbeats 8000000 in
set_option maxRecDepth 100000 in
theorem impl_KeysText.calls (k : Nat) (A0 : Option Addr) (c0 : Nat) (l0 : List ByteArray) (r1 : ByteArray) (r2 : Bool) (w : World) (hr0 : Kd.C Kd.string w A0 l0.length l0) (hc0 : l0.length ≤ c0) (h : impl_KeysText.f k l0 = some (r1, r2)) :
  Calls Tryz.prog 15 #[.slice A0 l0.length c0] w fun e w' => e = .returned (.tuple #[.string r1, .bool r2]) ∧ Below w.heap.size w w' := by
 have HR0 := aM hr0
 have HC0 := aM hc0
 clear hr0 hc0
 have HB := aM (Below.refl w.heap.size w)
 have H := h; clear h; unfold impl_KeysText.f at H
 replace H := jS H; obtain ⟨t282, A2, H⟩ := H
 by_cases c3 : t282 = true
 ·subst c3
  replace H := jT H
  replace H := jS H; obtain ⟨t283, A4, H⟩ := H
  simp only [Option.some.injEq, Prod.mk.injEq] at H
  obtain ⟨rfl, rfl⟩ := H
  go_enter Tryz.func15, Tryz.ntmps15
  go_wp2_with (first | ((with_reducible refine gC 18 rfl ?_); refine gL (some 5) Tryz.func18 #[.slice A0 l0.length c0] ?_; (with_reducible refine (impl_AreKeys.calls k _ _ l0 true _ ?side1 ?side2 A2.out).mono ?_); (case side1 => repeat (first | exact HR0.out | (with_reducible refine cA ?_ _) | (with_reducible refine cN ?_ _) | (with_reducible refine cD ?_))); (case side2 => exact HC0.out); rintro e w5 ⟨rfl, hb⟩; refine ⟨_, rfl, ?_⟩; replace HB := aM (below_step HB.out hb); (try clear hb)) | ((with_reducible refine gC 47 rfl ?_); refine gL (some 8) Tryz.func47 #[.slice A0 l0.length c0, .string (⟨#[47]⟩ : ByteArray)] ?_; (with_reducible refine (strings_Join.calls _ _ l0 (⟨#[47]⟩ : ByteArray) t283 _ ?side1 ?side2 A4.out).mono ?_); (case side1 => exact Kd.C_below HR0.out HB.out); (case side2 => exact HC0.out); rintro e w6 ⟨rfl, hb⟩; refine ⟨_, rfl, ?_⟩; replace HB := aM (below_step HB.out hb); (try clear hb)))
  go_ret2
  exact ⟨rfl, HB.out⟩
 ·replace c3 := Bool.eq_false_iff.mpr c3
  subst c3
  replace H := jF H
  simp only [Option.some.injEq, Prod.mk.injEq] at H
  obtain ⟨rfl, rfl⟩ := H
  go_enter Tryz.func15, Tryz.ntmps15
  go_wp2_with (first | ((with_reducible refine gC 18 rfl ?_); refine gL (some 5) Tryz.func18 #[.slice A0 l0.length c0] ?_; (with_reducible refine (impl_AreKeys.calls k _ _ l0 false _ ?side1 ?side2 A2.out).mono ?_); (case side1 => repeat (first | exact HR0.out | (with_reducible refine cA ?_ _) | (with_reducible refine cN ?_ _) | (with_reducible refine cD ?_))); (case side2 => exact HC0.out); rintro e w7 ⟨rfl, hb⟩; refine ⟨_, rfl, ?_⟩; replace HB := aM (below_step HB.out hb); (try clear hb)))
  go_ret2
  exact ⟨rfl, HB.out⟩

end Go.Proofs.YtbmbehkdidlolaaGreatDoor.PT
