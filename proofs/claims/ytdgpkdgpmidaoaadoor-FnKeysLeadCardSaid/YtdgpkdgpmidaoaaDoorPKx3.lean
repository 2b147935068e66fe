-- written by a program of this session's (wip/tools), over the kit's print
import Derived.Test.YtdgpkdgpmidaoaaDoorPKx0
import Derived.Test.YtdgpkdgpmidaoaaDoorPKx2
-- squeezed
-- squeezed twice
namespace Go.Proofs.YtdgpkdgpmidaoaaDoor.PK
open Go.RowKit Go.Proofs.YtdgpkdgpmidaoaaDoorW.PrintWords Go.Proofs.YtdgpkdgpmidaoaaDoorW.PrintLast Go.Proofs.YtdgpkdgpmidaoaaDoorW.PrintMore
attribute [local go_sem] max2_int min2_int max_two min_two max_three min_three max_four min_four   -- for this text's walks alone
set_option linter.unusedVariables false
set_option linter.unusedSimpArgs false

/-! ### impl_AreKeys: function 25 -/
def impl_AreKeys.l0 : Nat → List ByteArray → List ByteArray → Int → Int → Option (Bool)
 | 0, _, _, _, _ => none
 | k + 1, x0, x5, x6, x7 => if x7 < x6 then (if 0 ≤ x7 then (if x7 < (x5.length : Int) then ((impl_isNeed.f (rdOf ByteArray.empty x5 x7) (x0.length : Int)).bind fun t223 => (if t223 = true then (if x7 < ((rdOf ByteArray.empty x5 x7).size : Int) then (if (bt (rdOf ByteArray.empty x5 x7) x7) = 63 then (impl_AreKeys.l0 k x0 x5 x6 (wrap64 (x7 + 1))) else (some false)) else (none)) else (some false))) else (none)) else (none)) else ((impl_in.f (x0.length : Int) 1 10).bind fun t224 => (some t224))
def impl_AreKeys.f (k : Nat) (l0 : List ByteArray) : Option (Bool) := impl_AreKeys.l0 k l0 l0 (l0.length : Int) 0
theorem impl_AreKeys.mono_l : ∀ k, (∀ y0 y1 y2 y3, LeO (impl_AreKeys.l0 k y0 y1 y2 y3) (impl_AreKeys.l0 (k + 1) y0 y1 y2 y3))
 | 0 => fun _ _ _ _ r h => by simp [impl_AreKeys.l0] at h
 | k + 1 => by
  have ih0 := impl_AreKeys.mono_l k
  ·intro y0 y1 y2 y3
   unfold impl_AreKeys.l0
   repeat' first
   | (with_reducible exact ih0 _ _ _ _)
   | (with_reducible exact LeO.refl _)
   | (with_reducible exact LeO.none _)
   | (with_reducible refine LeO.ite ?_ ?_)
   | (with_reducible refine LeO.bind ?_ (fun _ => ?_))
   | exact ih0 _ _ _ _
   | exact LeO.none _
   | refine LeO.ite ?_ ?_
   | refine LeO.bind ?_ (fun _ => ?_)
theorem impl_AreKeys.mono : ∀ a0 k, LeO (impl_AreKeys.f k a0) (impl_AreKeys.f (k + 1) a0) := by
 intro a0 k
 have ih0 := impl_AreKeys.mono_l k
 unfold impl_AreKeys.f
 repeat' first
   | (with_reducible exact ih0 _ _ _ _)
   | (with_reducible exact LeO.refl _)
   | (with_reducible exact LeO.none _)
   | (with_reducible refine LeO.ite ?_ ?_)
   | (with_reducible refine LeO.bind ?_ (fun _ => ?_))
   | exact ih0 _ _ _ _
   | exact LeO.none _
   | refine LeO.ite ?_ ?_
   | refine LeO.bind ?_ (fun _ => ?_)
set_option maxHeartbeats 8000000 in
set_option maxRecDepth 100000 in
theorem impl_AreKeys.calls (k : Nat) (A0 : Option Addr) (c0 : Nat) (l0 : List ByteArray) (r : Bool) (w : World) (hr0 : Kd.C Kd.string w A0 l0.length l0) (hc0 : l0.length ≤ c0) (h : impl_AreKeys.f k l0 = some r) :
  Calls Tryd.prog 25 #[.slice A0 l0.length c0] w fun e w' => e = .returned (.bool r) ∧ Below w.heap.size w w' := by
 have HR0 := aM hr0
 have HC0 := aM hc0
 clear hr0 hc0
 have HB := aM (Below.refl w.heap.size w)
 have H : (impl_AreKeys.l0 k l0 l0 (l0.length : Int) 0) = some r := h
 clear h
 have H' := aM H
 clear H
 go_enter Tryd.func25, Tryd.ntmps25
 go_wp2
 go_loopg [7] k (fun kq v7 w' => ∃ (x7_1 : Int), v7 = .int .i64 x7_1 ∧ Aside0 (impl_AreKeys.l0 kq l0 l0 (l0.length : Int) x7_1 = some r) ∧ Aside0 (kq ≤ k) ∧ Aside0 (Below w.heap.size w w'))
 case atStart => exact ⟨(0), (by first | rfl | (simp; done) | (simp [*]; done)), H', ⟨Nat.le_refl _⟩, ⟨by repeat (first | (with_reducible first | exact HB.out | apply bA | apply bN | apply bD) | exact HB.out)⟩⟩
 case round =>
  clear H'
  obtain ⟨x7_1, rfl, HA, HK1, HB⟩ := hrel
  cases gk with
  | zero => exact absurd HA.out (by simp [impl_AreKeys.l0])
  | succ k1 =>
   have H := HA.out
   clear HA
   simp only [impl_AreKeys.l0] at H
   by_cases c2 : x7_1 < (l0.length : Int)
   ·rw [if_pos c2] at H
    have c2b0 : decide (x7_1 < (l0.length : Int)) = true := decide_eq_true c2
    clear c2
    by_cases c3 : 0 ≤ x7_1
    ·rw [if_pos c3] at H
     have c3b0 : decide (0 ≤ x7_1) = true := decide_eq_true c3
     clear c3
     by_cases c4 : x7_1 < (l0.length : Int)
     ·rw [if_pos c4] at H
      have c4b0 : decide (x7_1 < (l0.length : Int)) = true := decide_eq_true c4
      clear c4
      replace H := Option.bind_eq_some_iff.mp H
      obtain ⟨t223, A50, H⟩ := H
      replace H : (if t223 = true then (if x7_1 < ((rdOf ByteArray.empty l0 x7_1).size : Int) then (if (bt (rdOf ByteArray.empty l0 x7_1) x7_1) = 63 then (impl_AreKeys.l0 k1 l0 l0 (l0.length : Int) (wrap64 (x7_1 + 1))) else (some false)) else (none)) else (some false)) = some r := H
      have A5 := aM A50
      clear A50
      by_cases c6 : t223 = true
      ·subst c6
       have H1 : (if x7_1 < ((rdOf ByteArray.empty l0 x7_1).size : Int) then (if (bt (rdOf ByteArray.empty l0 x7_1) x7_1) = 63 then (impl_AreKeys.l0 k1 l0 l0 (l0.length : Int) (wrap64 (x7_1 + 1))) else (some false)) else (none)) = some r := by rw [if_pos rfl] at H; exact H
       clear H; have H := H1; clear H1
       by_cases c7 : x7_1 < ((rdOf ByteArray.empty l0 x7_1).size : Int)
       ·rw [if_pos c7] at H
        have c7b0 : decide (x7_1 < ((rdOf ByteArray.empty l0 x7_1).size : Int)) = true := decide_eq_true c7
        clear c7
        by_cases c9 : (bt (rdOf ByteArray.empty l0 x7_1) x7_1) = 63
        ·rw [if_pos c9] at H
         have c9b0 : ((bt (rdOf ByteArray.empty l0 x7_1) x7_1) == 63) = true := beq_iff_eq.mpr c9
         have c9b1 : ((bt (rdOf ByteArray.empty l0 x7_1) x7_1) != 63) = false := bne_eq_false_iff_eq.mpr c9
         clear c9
         have H' := aM H
         clear H
         have p222 : 0 ≤ (x7_1 : Int) := of_decide_eq_true (by first | (with_reducible assumption) | assumption)
         have q222 : x7_1 < (l0.length : Int) := of_decide_eq_true (by first | (with_reducible assumption) | assumption)
         obtain ⟨ad222, e222, hx222_0⟩ := Kd.at_string HR0.out x7_1 p222 q222
         cases e222
         replace hx222_0 := (HB.out.cell (World.block_lt_of_cell? w _ hx222_0)).trans hx222_0
         replace p222 := eq_true p222
         replace q222 := eq_true q222
         go_wp2_with (first | ((with_reducible refine gate_callee (f := 49) rfl ?_); refine goesL_ (some 15) rfl rfl Tryd.func49 (by kernel_rfl) rfl #[.string (rdOf ByteArray.empty l0 x7_1), .int .i64 (l0.length : Int)] rfl (by (try simp only [List.map_toArray, List.map_cons, List.map_nil]); first | done | rfl | (simp only [List.length_drop, List.length_take]; rfl)) ?_; (with_reducible refine (impl_isNeed.calls (rdOf ByteArray.empty l0 x7_1) (l0.length : Int) true _ A5.out).mono ?_); rintro e w10 ⟨rfl, hb⟩; refine ⟨_, rfl, ?_⟩; have n0_ := aM (below_step (by repeat (first | (with_reducible first | exact HB.out | apply bA | apply bN | apply bD) | exact HB.out)) hb); clear HB; have HB := n0_; clear n0_; (try clear hb); (try clear hb2); (try clear hk); (try clear hi); have p8 : 0 ≤ (x7_1 : Int) := of_decide_eq_true (by first | (with_reducible assumption) | assumption); have q8 : x7_1 < ((rdOf ByteArray.empty l0 x7_1).size : Int) := of_decide_eq_true (by first | (with_reducible assumption) | assumption); have hx8 := bt_at (rdOf ByteArray.empty l0 x7_1) x7_1; replace p8 := eq_true p8; replace q8 := eq_true q8))
         go_roundg k1
         case measure => have := HK1.out; omega
         case rel => exact ⟨(wrap64 (x7_1 + 1)), (by first | rfl | (simp; done) | (simp [*]; done)), H', ⟨by have := HK1.out; omega⟩, ⟨by repeat (first | (with_reducible first | exact HB.out | apply bA | apply bN | apply bD) | exact HB.out)⟩⟩
        ·rw [if_neg c9] at H
         have c9b0 : ((bt (rdOf ByteArray.empty l0 x7_1) x7_1) == 63) = false := beq_eq_false_iff_ne.mpr c9
         have c9b1 : ((bt (rdOf ByteArray.empty l0 x7_1) x7_1) != 63) = true := bne_iff_ne.mpr c9
         obtain rfl := Option.some.inj H
         have p222 : 0 ≤ (x7_1 : Int) := of_decide_eq_true (by first | (with_reducible assumption) | assumption)
         have q222 : x7_1 < (l0.length : Int) := of_decide_eq_true (by first | (with_reducible assumption) | assumption)
         obtain ⟨ad222, e222, hx222_0⟩ := Kd.at_string HR0.out x7_1 p222 q222
         cases e222
         replace hx222_0 := (HB.out.cell (World.block_lt_of_cell? w _ hx222_0)).trans hx222_0
         replace p222 := eq_true p222
         replace q222 := eq_true q222
         go_wp2_with (first | ((with_reducible refine gate_callee (f := 49) rfl ?_); refine goesL_ (some 15) rfl rfl Tryd.func49 (by kernel_rfl) rfl #[.string (rdOf ByteArray.empty l0 x7_1), .int .i64 (l0.length : Int)] rfl (by (try simp only [List.map_toArray, List.map_cons, List.map_nil]); first | done | rfl | (simp only [List.length_drop, List.length_take]; rfl)) ?_; (with_reducible refine (impl_isNeed.calls (rdOf ByteArray.empty l0 x7_1) (l0.length : Int) true _ A5.out).mono ?_); rintro e w11 ⟨rfl, hb⟩; refine ⟨_, rfl, ?_⟩; have n0_ := aM (below_step (by repeat (first | (with_reducible first | exact HB.out | apply bA | apply bN | apply bD) | exact HB.out)) hb); clear HB; have HB := n0_; clear n0_; (try clear hb); (try clear hb2); (try clear hk); (try clear hi); have p8 : 0 ≤ (x7_1 : Int) := of_decide_eq_true (by first | (with_reducible assumption) | assumption); have q8 : x7_1 < ((rdOf ByteArray.empty l0 x7_1).size : Int) := of_decide_eq_true (by first | (with_reducible assumption) | assumption); have hx8 := bt_at (rdOf ByteArray.empty l0 x7_1) x7_1; replace p8 := eq_true p8; replace q8 := eq_true q8))
         go_ret
         exact ⟨by first | rfl | (simp [errW_none, errW_some] <;> rfl) | (simp [*, errW_none, errW_some] <;> rfl), by repeat (first | (with_reducible first | exact HB.out | apply bA | apply bN | apply bD) | exact HB.out)⟩
       ·rw [if_neg c7] at H
        exact absurd H (by simp)
      ·replace c6 := Bool.eq_false_iff.mpr c6
       subst c6
       have H1 : (some false) = some r := by rw [if_neg (show ¬ (false = true) by decide)] at H; exact H
       clear H; have H := H1; clear H1
       obtain rfl := Option.some.inj H
       have p222 : 0 ≤ (x7_1 : Int) := of_decide_eq_true (by first | (with_reducible assumption) | assumption)
       have q222 : x7_1 < (l0.length : Int) := of_decide_eq_true (by first | (with_reducible assumption) | assumption)
       obtain ⟨ad222, e222, hx222_0⟩ := Kd.at_string HR0.out x7_1 p222 q222
       cases e222
       replace hx222_0 := (HB.out.cell (World.block_lt_of_cell? w _ hx222_0)).trans hx222_0
       replace p222 := eq_true p222
       replace q222 := eq_true q222
       go_wp2_with (first | ((with_reducible refine gate_callee (f := 49) rfl ?_); refine goesL_ (some 15) rfl rfl Tryd.func49 (by kernel_rfl) rfl #[.string (rdOf ByteArray.empty l0 x7_1), .int .i64 (l0.length : Int)] rfl (by (try simp only [List.map_toArray, List.map_cons, List.map_nil]); first | done | rfl | (simp only [List.length_drop, List.length_take]; rfl)) ?_; (with_reducible refine (impl_isNeed.calls (rdOf ByteArray.empty l0 x7_1) (l0.length : Int) false _ A5.out).mono ?_); rintro e w12 ⟨rfl, hb⟩; refine ⟨_, rfl, ?_⟩; have n0_ := aM (below_step (by repeat (first | (with_reducible first | exact HB.out | apply bA | apply bN | apply bD) | exact HB.out)) hb); clear HB; have HB := n0_; clear n0_; (try clear hb); (try clear hb2); (try clear hk); (try clear hi)))
       go_ret
       exact ⟨by first | rfl | (simp [errW_none, errW_some] <;> rfl) | (simp [*, errW_none, errW_some] <;> rfl), by repeat (first | (with_reducible first | exact HB.out | apply bA | apply bN | apply bD) | exact HB.out)⟩
     ·rw [if_neg c4] at H
      exact absurd H (by simp)
    ·rw [if_neg c3] at H
     exact absurd H (by simp)
   ·rw [if_neg c2] at H
    have c2b0 : decide (x7_1 < (l0.length : Int)) = false := decide_eq_false c2
    clear c2
    replace H := Option.bind_eq_some_iff.mp H
    obtain ⟨t224, A130, H⟩ := H
    replace H : (some t224) = some r := H
    have A13 := aM A130
    clear A130
    obtain rfl := Option.some.inj H
    go_wp2_with (first | ((with_reducible refine gate_callee (f := 38) rfl ?_); refine goesL_ (some 26) rfl rfl Tryd.func38 (by kernel_rfl) rfl #[.int .i64 (l0.length : Int), .int .i64 1, .int .i64 10] rfl (by (try simp only [List.map_toArray, List.map_cons, List.map_nil]); first | done | rfl | (simp only [List.length_drop, List.length_take]; rfl)) ?_; (with_reducible refine (impl_in.calls (l0.length : Int) 1 10 t224 _ A13.out).mono ?_); rintro e w' ⟨rfl, ⟨nd, rfl⟩⟩; refine ⟨_, rfl, ?_⟩))
    go_ret
    exact ⟨by first | rfl | (simp [errW_none, errW_some] <;> rfl) | (simp [*, errW_none, errW_some] <;> rfl), by repeat (first | (with_reducible first | exact HB.out | apply bA | apply bN | apply bD) | exact HB.out)⟩

/-! ### slices_IndexFunc_string_string: function 63 (told by hand) -/
theorem slices_IndexFunc_string_string.goesV_ {ops : Array Oper} {rest : List Oper} {oi : Oper} {a : Act} {w : World} {Q : Exit → Act → World → Prop} {f : FuncId} {lb : Array Value} {as_ : Array Operand} {ts : Array TypeId} {v : Operand} (N : Option Tmp) (hd : oi.dst = N) (hg : oi.guard = none) (args : Array Value)
  (hop : oi.op = .call { callee := .value v, args := as_, argTypes := ts }) (hv : a.eval v = .func (.func f) #[] lb) (hargs : as_.map a.eval = args) (eg : Go.Proofs.Enters Tryd.prog f)
  (h : Calls Tryd.prog f (args ++ lb) w fun e w' => ∃ v, e = .returned v ∧ wpList Tryd.prog ops Q rest (a.put N v) w') : wpList Tryd.prog ops Q (oi :: rest) a w := by
 refine wpList_plain hg fun K hK => ?_
 have he := eg (args ++ lb) w
 have hrun : (execOp a.eval oi).run Tryd.prog w = .ok (.enter f (args ++ lb)) w := by
  unfold execOp
  simp [hop, resolve, Deferred.ofValue, invoke, hv, hargs, he]
 unfold Oper.wp
 rw [hrun, Oper.upon_enter]
 refine h.mono fun e w'' hh => ?_
 obtain ⟨v, rfl, hk⟩ := hh
 subst hd
 exact hK _ _ hk
def slices_IndexFunc_string_string.l0 (rule : Nat → ByteArray → Option Bool) : Nat → List ByteArray → Int → Int → Option (Int)
 | 0, _, _, _ => none
 | k + 1, x0, x7, x8 => if x8 < x7 then (if 0 ≤ x8 then (if x8 < (x0.length : Int) then ((rule k (rdOf ByteArray.empty x0 x8)).bind fun t189 => (if t189 = true then (some x8) else (slices_IndexFunc_string_string.l0 rule k x0 x7 (wrap64 (x8 + 1))))) else (none)) else (none)) else (some (-1))
def slices_IndexFunc_string_string.f (rule : Nat → ByteArray → Option Bool) (k : Nat) (l0 : List ByteArray) : Option (Int) := slices_IndexFunc_string_string.l0 rule k l0 (l0.length : Int) 0
theorem slices_IndexFunc_string_string.mono_l {rule : Nat → ByteArray → Option Bool} (hr : ∀ x0 n, LeO (rule n x0) (rule (n + 1) x0)) : ∀ k, (∀ y0 y1 y2, LeO (slices_IndexFunc_string_string.l0 rule k y0 y1 y2) (slices_IndexFunc_string_string.l0 rule (k + 1) y0 y1 y2))
 | 0 => fun _ _ _ r h => by simp [slices_IndexFunc_string_string.l0] at h
 | k + 1 => by
  have ih0 := slices_IndexFunc_string_string.mono_l hr k
  ·intro y0 y1 y2
   unfold slices_IndexFunc_string_string.l0
   repeat' first
   | (with_reducible exact ih0 _ _ _)
   | (with_reducible exact hr _ _)
   | (with_reducible exact LeO.refl _)
   | (with_reducible exact LeO.none _)
   | (with_reducible refine LeO.ite ?_ ?_)
   | (with_reducible refine LeO.bind ?_ (fun _ => ?_))
   | exact ih0 _ _ _
   | exact hr _ _
   | exact LeO.none _
   | refine LeO.ite ?_ ?_
   | refine LeO.bind ?_ (fun _ => ?_)
theorem slices_IndexFunc_string_string.mono {rule : Nat → ByteArray → Option Bool} (hr : ∀ x0 n, LeO (rule n x0) (rule (n + 1) x0)) : ∀ a0 k, LeO (slices_IndexFunc_string_string.f rule k a0) (slices_IndexFunc_string_string.f rule (k + 1) a0) := by
 intro a0 k
 have ih0 := slices_IndexFunc_string_string.mono_l hr k
 unfold slices_IndexFunc_string_string.f
 repeat' first
   | (with_reducible exact ih0 _ _ _)
   | (with_reducible exact hr _ _)
   | (with_reducible exact LeO.refl _)
   | (with_reducible exact LeO.none _)
   | (with_reducible refine LeO.ite ?_ ?_)
   | (with_reducible refine LeO.bind ?_ (fun _ => ?_))
   | exact ih0 _ _ _
   | exact hr _ _
   | exact LeO.none _
   | refine LeO.ite ?_ ?_
   | refine LeO.bind ?_ (fun _ => ?_)
set_option maxHeartbeats 8000000 in
set_option maxRecDepth 100000 in
theorem slices_IndexFunc_string_string.calls (g : Nat) (lb : Array Value) (eg : Go.Proofs.Enters Tryd.prog g) (rule : Nat → ByteArray → Option Bool) (k : Nat) (A0 : Option Addr) (c0 : Nat) (l0 : List ByteArray) (r : Int) (w : World) (hr0 : Kd.C Kd.string w A0 l0.length l0) (hc0 : l0.length ≤ c0) 
  (hp : ∀ (j : Nat) (x : ByteArray) (b : Bool) (W : World), Below w.heap.size w W → rule j x = some b → Calls Tryd.prog g (#[.string x] ++ lb) W fun e w' => e = .returned (.bool b) ∧ Below W.heap.size W w')
  (h : slices_IndexFunc_string_string.f rule k l0 = some r) :
  Calls Tryd.prog 63 #[.slice A0 l0.length c0, .func (.func g) #[] lb] w fun e w' => e = .returned (.int .i64 r) ∧ Below w.heap.size w w' := by
 have HP_ := aM hp
 clear hp
 have EG_ := aM eg
 clear eg
 have HR0 := aM hr0
 have HC0 := aM hc0
 clear hr0 hc0
 have HB := aM (Below.refl w.heap.size w)
 have H : (slices_IndexFunc_string_string.l0 rule k l0 (l0.length : Int) 0) = some r := h
 clear h
 have H' := aM H
 clear H
 go_enter Tryd.func63, Tryd.ntmps63
 go_wp2
 go_loopg [8] k (fun kq v8 w' => ∃ (x8_1 : Int), v8 = .int .i64 x8_1 ∧ Aside0 (slices_IndexFunc_string_string.l0 rule kq l0 (l0.length : Int) x8_1 = some r) ∧ Aside0 (kq ≤ k) ∧ Aside0 (Below w.heap.size w w'))
 case atStart => exact ⟨(0), (by first | rfl | (simp; done) | (simp [*]; done)), H', ⟨Nat.le_refl _⟩, ⟨by repeat (first | (with_reducible first | exact HB.out | apply bA | apply bN | apply bD) | exact HB.out)⟩⟩
 case round =>
  clear H'
  try clear c1
  try clear p2
  obtain ⟨x8_1, rfl, HA, HK1, HB⟩ := hrel
  cases gk with
  | zero => exact absurd HA.out (by simp [slices_IndexFunc_string_string.l0])
  | succ k1 =>
   have H := HA.out
   clear HA
   simp only [slices_IndexFunc_string_string.l0] at H
   by_cases c3 : x8_1 < (l0.length : Int)
   ·rw [if_pos c3] at H
    have c3b0 : decide (x8_1 < (l0.length : Int)) = true := decide_eq_true c3
    clear c3
    by_cases c4 : 0 ≤ x8_1
    ·rw [if_pos c4] at H
     have c4b0 : decide (0 ≤ x8_1) = true := decide_eq_true c4
     clear c4
     by_cases c5 : x8_1 < (l0.length : Int)
     ·rw [if_pos c5] at H
      have c5b0 : decide (x8_1 < (l0.length : Int)) = true := decide_eq_true c5
      clear c5
      replace H := Option.bind_eq_some_iff.mp H
      obtain ⟨t189, A60, H⟩ := H
      replace H : (if t189 = true then (some x8_1) else (slices_IndexFunc_string_string.l0 rule k1 l0 (l0.length : Int) (wrap64 (x8_1 + 1)))) = some r := H
      have A6 := aM A60
      clear A60
      by_cases c7 : t189 = true
      ·subst c7
       have H1 : (some x8_1) = some r := by rw [if_pos rfl] at H; exact H
       clear H; have H := H1; clear H1
       obtain rfl := Option.some.inj H
       have p188 : 0 ≤ (x8_1 : Int) := of_decide_eq_true (by first | (with_reducible assumption) | assumption)
       have q188 : x8_1 < (l0.length : Int) := of_decide_eq_true (by first | (with_reducible assumption) | assumption)
       obtain ⟨ad188, e188, hx188_0⟩ := Kd.at_string HR0.out x8_1 p188 q188
       cases e188
       replace hx188_0 := (HB.out.cell (World.block_lt_of_cell? w _ hx188_0)).trans hx188_0
       replace p188 := eq_true p188
       replace q188 := eq_true q188
       go_wp2_with (first | ((with_reducible refine gate_dst (N := 16) rfl ?_); refine slices_IndexFunc_string_string.goesV_ (f := g) (lb := lb) (some 16) rfl rfl #[.string (rdOf ByteArray.empty l0 x8_1)] rfl rfl (by (try simp only [List.map_toArray, List.map_cons, List.map_nil]); first | done | rfl | (simp only [List.length_drop, List.length_take]; rfl)) EG_.out ?_; (with_reducible refine (HP_.out k1 (rdOf ByteArray.empty l0 x8_1) true _ (by repeat (first | (with_reducible first | exact HB.out | apply bA | apply bN | apply bD) | exact HB.out)) A6.out).mono ?_); rintro e w8 ⟨rfl, hb⟩; refine ⟨_, rfl, ?_⟩; have n0_ := aM (below_step (by repeat (first | (with_reducible first | exact HB.out | apply bA | apply bN | apply bD) | exact HB.out)) hb); clear HB; have HB := n0_; clear n0_; (try clear hb); (try clear hb2); (try clear hk); (try clear hi)))
       go_ret
       exact ⟨by first | rfl | (simp [errW_none, errW_some] <;> rfl) | (simp [*, errW_none, errW_some] <;> rfl), by repeat (first | (with_reducible first | exact HB.out | apply bA | apply bN | apply bD) | exact HB.out)⟩
      ·replace c7 := Bool.eq_false_iff.mpr c7
       subst c7
       have H1 : (slices_IndexFunc_string_string.l0 rule k1 l0 (l0.length : Int) (wrap64 (x8_1 + 1))) = some r := by rw [if_neg (show ¬ (false = true) by decide)] at H; exact H
       clear H; have H := H1; clear H1
       have H' := aM H
       clear H
       have p188 : 0 ≤ (x8_1 : Int) := of_decide_eq_true (by first | (with_reducible assumption) | assumption)
       have q188 : x8_1 < (l0.length : Int) := of_decide_eq_true (by first | (with_reducible assumption) | assumption)
       obtain ⟨ad188, e188, hx188_0⟩ := Kd.at_string HR0.out x8_1 p188 q188
       cases e188
       replace hx188_0 := (HB.out.cell (World.block_lt_of_cell? w _ hx188_0)).trans hx188_0
       replace p188 := eq_true p188
       replace q188 := eq_true q188
       go_wp2_with (first | ((with_reducible refine gate_dst (N := 16) rfl ?_); refine slices_IndexFunc_string_string.goesV_ (f := g) (lb := lb) (some 16) rfl rfl #[.string (rdOf ByteArray.empty l0 x8_1)] rfl rfl (by (try simp only [List.map_toArray, List.map_cons, List.map_nil]); first | done | rfl | (simp only [List.length_drop, List.length_take]; rfl)) EG_.out ?_; (with_reducible refine (HP_.out k1 (rdOf ByteArray.empty l0 x8_1) false _ (by repeat (first | (with_reducible first | exact HB.out | apply bA | apply bN | apply bD) | exact HB.out)) A6.out).mono ?_); rintro e w9 ⟨rfl, hb⟩; refine ⟨_, rfl, ?_⟩; have n0_ := aM (below_step (by repeat (first | (with_reducible first | exact HB.out | apply bA | apply bN | apply bD) | exact HB.out)) hb); clear HB; have HB := n0_; clear n0_; (try clear hb); (try clear hb2); (try clear hk); (try clear hi)))
       go_roundg k1
       case measure => have := HK1.out; omega
       case rel => exact ⟨(wrap64 (x8_1 + 1)), (by first | rfl | (simp; done) | (simp [*]; done)), H', ⟨by have := HK1.out; omega⟩, ⟨by repeat (first | (with_reducible first | exact HB.out | apply bA | apply bN | apply bD) | exact HB.out)⟩⟩
     ·rw [if_neg c5] at H
      exact absurd H (by simp)
    ·rw [if_neg c4] at H
     exact absurd H (by simp)
   ·rw [if_neg c3] at H
    have c3b0 : decide (x8_1 < (l0.length : Int)) = false := decide_eq_false c3
    clear c3
    obtain rfl := Option.some.inj H
    go_wp2
    go_ret
    exact ⟨by first | rfl | (simp [errW_none, errW_some] <;> rfl) | (simp [*, errW_none, errW_some] <;> rfl), by repeat (first | (with_reducible first | exact HB.out | apply bA | apply bN | apply bD) | exact HB.out)⟩




/-! ### slices_ContainsFunc_string_string: function 51 (told by hand) -/
def slices_ContainsFunc_string_string.f (rule : Nat → ByteArray → Option Bool) (k : Nat) (l0 : List ByteArray) : Option Bool := (slices_IndexFunc_string_string.f rule k l0).bind fun t => some (decide (0 ≤ t))
theorem slices_ContainsFunc_string_string.mono {rule : Nat → ByteArray → Option Bool} (hr : ∀ x0 n, LeO (rule n x0) (rule (n + 1) x0)) : ∀ a0 k, LeO (slices_ContainsFunc_string_string.f rule k a0) (slices_ContainsFunc_string_string.f rule (k + 1) a0) := fun a0 k => LeO.bind (slices_IndexFunc_string_string.mono hr a0 k) (fun _ => LeO.refl _)
set_option maxHeartbeats 4000000 in
set_option maxRecDepth 100000 in
theorem slices_ContainsFunc_string_string.calls (g : Nat) (lb : Array Value) (eg : Go.Proofs.Enters Tryd.prog g) (rule : Nat → ByteArray → Option Bool) (k : Nat) (A0 : Option Addr) (c0 : Nat) (l0 : List ByteArray) (r : Bool) (w : World) (hr0 : Kd.C Kd.string w A0 l0.length l0) (hc0 : l0.length ≤ c0)
  (hp : ∀ (j : Nat) (x : ByteArray) (b : Bool) (W : World), Below w.heap.size w W → rule j x = some b → Calls Tryd.prog g (#[.string x] ++ lb) W fun e w' => e = .returned (.bool b) ∧ Below W.heap.size W w')
  (h : slices_ContainsFunc_string_string.f rule k l0 = some r) :
  Calls Tryd.prog 51 #[.slice A0 l0.length c0, .func (.func g) #[] lb] w fun e w' => e = .returned (.bool r) ∧ Below w.heap.size w w' := by
 unfold slices_ContainsFunc_string_string.f at h
 obtain ⟨t, A1, h⟩ := Option.bind_eq_some_iff.mp h
 obtain rfl := Option.some.inj h
 clear h
 have HC := aM (slices_IndexFunc_string_string.calls g lb eg rule k A0 c0 l0 t w hr0 hc0 hp A1)
 clear A1 hp hr0 hc0
 go_enter Tryd.func51, Tryd.ntmps51
 go_wp2_with (first | (go_at_call 63; (with_reducible refine HC.out.mono ?_); rintro e w1 ⟨rfl, hb⟩))
 go_ret
 exact ⟨by first | rfl | simp, hb⟩

/-! ### impl_IsState: function 53 -/
def impl_IsState.f (a0 : ByteArray) : Option (Bool) := (impl_in.f (a0.size : Int) 1 20).bind fun t225 => (if t225 = true then ((strings_Trim.f a0 (⟨#[48, 49]⟩ : ByteArray)).bind fun t226 => (some (t226.toList == ([] : List UInt8)))) else (some false))
set_option maxHeartbeats 8000000 in
set_option maxRecDepth 100000 in
theorem impl_IsState.calls (a0 : ByteArray) (r : Bool) (w : World) (h : impl_IsState.f a0 = some r) :
  Calls Tryd.prog 53 #[.string a0] w fun e w' => e = .returned (.bool r) ∧ Below w.heap.size w w' := by
 have HB := aM (Below.refl w.heap.size w)
 have H : ((impl_in.f (a0.size : Int) 1 20).bind fun t225 => (if t225 = true then ((strings_Trim.f a0 (⟨#[48, 49]⟩ : ByteArray)).bind fun t226 => (some (t226.toList == ([] : List UInt8)))) else (some false))) = some r := h
 clear h
 replace H := Option.bind_eq_some_iff.mp H
 obtain ⟨t225, A20, H⟩ := H
 replace H : (if t225 = true then ((strings_Trim.f a0 (⟨#[48, 49]⟩ : ByteArray)).bind fun t226 => (some (t226.toList == ([] : List UInt8)))) else (some false)) = some r := H
 have A2 := aM A20
 clear A20
 by_cases c3 : t225 = true
 ·subst c3
  have H1 : ((strings_Trim.f a0 (⟨#[48, 49]⟩ : ByteArray)).bind fun t226 => (some (t226.toList == ([] : List UInt8)))) = some r := by rw [if_pos rfl] at H; exact H
  clear H; have H := H1; clear H1
  replace H := Option.bind_eq_some_iff.mp H
  obtain ⟨t226, A40, H⟩ := H
  replace H : (some (t226.toList == ([] : List UInt8))) = some r := H
  have A4 := aM A40
  clear A40
  obtain rfl := Option.some.inj H
  go_enter Tryd.func53, Tryd.ntmps53
  go_wp2_with (first | ((with_reducible refine gate_callee (f := 38) rfl ?_); refine goesL_ (some 5) rfl rfl Tryd.func38 (by kernel_rfl) rfl #[.int .i64 (a0.size : Int), .int .i64 1, .int .i64 20] rfl (by (try simp only [List.map_toArray, List.map_cons, List.map_nil]); first | done | rfl | (simp only [List.length_drop, List.length_take]; rfl)) ?_; (with_reducible refine (impl_in.calls (a0.size : Int) 1 20 true _ A2.out).mono ?_); rintro e w' ⟨rfl, ⟨nd, rfl⟩⟩; refine ⟨_, rfl, ?_⟩) | (go_at_call 62; (with_reducible refine (strings_Trim.calls a0 (⟨#[48, 49]⟩ : ByteArray) t226 _ A4.out).mono ?_); rintro e w5 ⟨rfl, hb⟩; have n0_ := aM (below_step (by repeat (first | (with_reducible first | exact HB.out | apply bA | apply bN | apply bD) | exact HB.out)) hb); clear HB; have HB := n0_; clear n0_; (try clear hb); (try clear hb2); (try clear hk); (try clear hi)))
  go_ret
  exact ⟨by first | rfl | (simp [errW_none, errW_some] <;> rfl) | (simp [*, errW_none, errW_some] <;> rfl), by repeat (first | (with_reducible first | exact HB.out | apply bA | apply bN | apply bD) | exact HB.out)⟩
 ·replace c3 := Bool.eq_false_iff.mpr c3
  subst c3
  have H1 : (some false) = some r := by rw [if_neg (show ¬ (false = true) by decide)] at H; exact H
  clear H; have H := H1; clear H1
  obtain rfl := Option.some.inj H
  go_enter Tryd.func53, Tryd.ntmps53
  go_wp2_with (first | ((with_reducible refine gate_callee (f := 38) rfl ?_); refine goesL_ (some 5) rfl rfl Tryd.func38 (by kernel_rfl) rfl #[.int .i64 (a0.size : Int), .int .i64 1, .int .i64 20] rfl (by (try simp only [List.map_toArray, List.map_cons, List.map_nil]); first | done | rfl | (simp only [List.length_drop, List.length_take]; rfl)) ?_; (with_reducible refine (impl_in.calls (a0.size : Int) 1 20 false _ A2.out).mono ?_); rintro e w' ⟨rfl, ⟨nd, rfl⟩⟩; refine ⟨_, rfl, ?_⟩))
  go_ret
  exact ⟨by first | rfl | (simp [errW_none, errW_some] <;> rfl) | (simp [*, errW_none, errW_some] <;> rfl), by repeat (first | (with_reducible first | exact HB.out | apply bA | apply bN | apply bD) | exact HB.out)⟩

/-! ### impl_keyed_1: function 52 (told by hand) -/
/-- The function value of impl.keyed: whether a text is no state of so many rings. -/
def impl_keyed_1.rule (l0 : List ByteArray) (_ : Nat) (s : ByteArray) : Option Bool := (impl_IsState.f s).bind fun t => if t = true then some (decide (s.size ≠ l0.length)) else some true
theorem impl_keyed_1.rule_mono (l0 : List ByteArray) : ∀ s n, LeO (impl_keyed_1.rule l0 n s) (impl_keyed_1.rule l0 (n + 1) s) := fun _ _ => LeO.refl _
set_option maxHeartbeats 8000000 in
set_option maxRecDepth 100000 in
theorem impl_keyed_1.calls (B : Nat) (A0 : Option Addr) (c0 : Nat) (l0 : List ByteArray) (k : Nat) (s : ByteArray) (b : Bool) (w : World) (hbk : w.heap[B]? = some (.cells #[.slice A0 l0.length c0] 24 (0, 0))) (h : impl_keyed_1.rule l0 k s = some b) :
  Calls Tryd.prog 52 (#[.string s] ++ #[.pointer (some ⟨B, 0, none⟩)]) w fun e w' => e = .returned (.bool b) ∧ Below w.heap.size w w' := by
 show Calls Tryd.prog 52 #[.string s, .pointer (some ⟨B, 0, none⟩)] w _
 unfold impl_keyed_1.rule at h
 obtain ⟨t, A1_, h⟩ := Option.bind_eq_some_iff.mp h
 have HA := aM A1_
 have HBK := aM hbk
 clear A1_ hbk
 cases t with
 | false =>
  rw [if_neg (by simp)] at h
  obtain rfl := Option.some.inj h
  clear h
  go_enter Tryd.func52, Tryd.ntmps52
  go_wp2_with (first | (go_at_call 53; (with_reducible refine (impl_IsState.calls s false w HA.out).mono ?_); rintro e w6 ⟨rfl, hb⟩; have HB6 := aM hb; clear hb))
  go_ret
  exact ⟨rfl, HB6.out⟩
 | true =>
  rw [if_pos rfl] at h
  obtain rfl := Option.some.inj h
  clear h
  by_cases c1 : s.size = l0.length
  ·have d1 : ((s.size : Int) != (l0.length : Int)) = false := bne_eq_false_iff_eq.mpr (by rw [c1])
   have d2 : decide (s.size ≠ l0.length) = false := decide_eq_false (fun h => h c1)
   clear c1
   rw [d2]
   clear d2
   go_enter Tryd.func52, Tryd.ntmps52
   go_wp2_with (first | (go_at_call 53; (with_reducible refine (impl_IsState.calls s true w HA.out).mono ?_); rintro e w6 ⟨rfl, hb⟩; have HB6 := aM hb; have hz2 : w6.cell? ⟨B, 0, none⟩ = some (.slice A0 l0.length c0) := (blk_cell (blk_below (g := B) (o := .cells #[.slice A0 l0.length c0] 24 (0, 0)) HBK.out hb) 0).trans rfl; clear hb))
   go_ret
   exact ⟨rfl, HB6.out⟩
  ·have d1 : ((s.size : Int) != (l0.length : Int)) = true := bne_iff_ne.mpr (fun h => c1 (Int.ofNat.inj h))
   have d2 : decide (s.size ≠ l0.length) = true := decide_eq_true c1
   clear c1
   rw [d2]
   clear d2
   go_enter Tryd.func52, Tryd.ntmps52
   go_wp2_with (first | (go_at_call 53; (with_reducible refine (impl_IsState.calls s true w HA.out).mono ?_); rintro e w6 ⟨rfl, hb⟩; have HB6 := aM hb; have hz2 : w6.cell? ⟨B, 0, none⟩ = some (.slice A0 l0.length c0) := (blk_cell (blk_below (g := B) (o := .cells #[.slice A0 l0.length c0] 24 (0, 0)) HBK.out hb) 0).trans rfl; clear hb))
   go_ret
   exact ⟨rfl, HB6.out⟩

/-! ### impl_keyed: function 29 (told by hand) -/
def impl_keyed.f (k : Nat) (l0 : List ByteArray) (l1 : List ByteArray) : Option Bool := (impl_AreKeys.f k l0).bind fun t => if t = true then ((slices_ContainsFunc_string_string.f (impl_keyed_1.rule l0) k l1).bind fun b => some (!b)) else some false
theorem impl_keyed.mono : ∀ a0 a1 k, LeO (impl_keyed.f k a0 a1) (impl_keyed.f (k + 1) a0 a1) := fun a0 a1 k =>
 LeO.bind (impl_AreKeys.mono _ _) (fun _ => LeO.ite (LeO.bind (slices_ContainsFunc_string_string.mono (impl_keyed_1.rule_mono a0) a1 k) (fun _ => LeO.refl _)) (LeO.refl _))
set_option maxHeartbeats 8000000 in
set_option maxRecDepth 100000 in
theorem impl_keyed.calls (k : Nat) (A0 : Option Addr) (c0 : Nat) (l0 : List ByteArray) (A1 : Option Addr) (c1 : Nat) (l1 : List ByteArray) (r : Bool) (w : World) (hr0 : Kd.C Kd.string w A0 l0.length l0) (hc0 : l0.length ≤ c0) (hr1 : Kd.C Kd.string w A1 l1.length l1) (hc1 : l1.length ≤ c1) (h : impl_keyed.f k l0 l1 = some r) :
  Calls Tryd.prog 29 #[.slice A0 l0.length c0, .slice A1 l1.length c1] w fun e w' => e = .returned (.bool r) ∧ Below w.heap.size w w' := by
 have hmf : ∀ (fn : Fn) (first cap : Array Value) (w : World), (Instr.makeFunc fn first cap).run Tryd.prog w = .ok (.func fn first cap) w := fun _ _ _ _ => rfl
 unfold impl_keyed.f at h
 obtain ⟨t, A1_, h⟩ := Option.bind_eq_some_iff.mp h
 have HR0 := aM hr0
 have HR1 := aM hr1
 have HC0 := aM hc0
 have HC1 := aM hc1
 have HA := aM A1_
 clear hr0 hr1 hc0 hc1 A1_
 cases t with
 | false =>
  rw [if_neg (by simp)] at h
  obtain rfl := Option.some.inj h
  clear h
  go_enter Tryd.func29, Tryd.ntmps29
  go_wp2_with (first | ((with_reducible refine gate_dst (N := 2) rfl ?_); refine box_event ?hg (N := 2) ?hd (cs := #[.slice A0 l0.length c0]) (t := 24) ?hr ?_; (case hd => rfl); (case hg => rfl); (case hr => first | (go_simp; done) | (go_simp; rfl)); intro gb hg w5 hbox hb; have HB := aM hb; have hz0 : w5.cell? ⟨gb, 0, none⟩ = some (.slice A0 l0.length c0) := (blk_cell hbox 0).trans rfl; clear hb hbox hg) | (go_at_call 25; (with_reducible refine (impl_AreKeys.calls k A0 c0 l0 false w5 (Kd.C_below HR0.out HB.out) HC0.out HA.out).mono ?_); rintro e w6 ⟨rfl, hb⟩; have HB6 := aM (below_step HB.out hb); clear hb))
  go_ret
  exact ⟨rfl, HB6.out⟩
 | true =>
  rw [if_pos rfl] at h
  obtain ⟨b, A2_, h⟩ := Option.bind_eq_some_iff.mp h
  obtain rfl := Option.some.inj h
  clear h
  have HA2 := aM A2_
  clear A2_
  go_enter Tryd.func29, Tryd.ntmps29
  go_wp2_with (first | ((with_reducible refine gate_dst (N := 2) rfl ?_); refine box_event ?hg (N := 2) ?hd (cs := #[.slice A0 l0.length c0]) (t := 24) ?hr ?_; (case hd => rfl); (case hg => rfl); (case hr => first | (go_simp; done) | (go_simp; rfl)); intro gb hg w5 hbox hb; have HB := aM hb; have BK := aM hbox; have hz0 : w5.cell? ⟨gb, 0, none⟩ = some (.slice A0 l0.length c0) := (blk_cell hbox 0).trans rfl; clear hb hbox hg) | (go_at_call 25; (with_reducible refine (impl_AreKeys.calls k A0 c0 l0 true w5 (Kd.C_below HR0.out HB.out) HC0.out HA.out).mono ?_); rintro e w6 ⟨rfl, hb⟩; have HB6 := aM (below_step HB.out hb); have BK6 := aM (blk_below (g := gb) (o := .cells #[.slice A0 l0.length c0] 24 (0, 0)) BK.out hb); clear hb) | (go_at_call 51; (with_reducible refine (slices_ContainsFunc_string_string.calls 52 #[.pointer (some ⟨gb, 0, none⟩)] (Go.Proofs.enters_of Tryd.func52 (by kernel_rfl) rfl) (impl_keyed_1.rule l0) k A1 c1 l1 b w6 (Kd.C_below HR1.out HB6.out) HC1.out (fun j x b W' hb' hj => impl_keyed_1.calls gb A0 c0 l0 j x b W' (blk_below (g := gb) (o := .cells #[.slice A0 l0.length c0] 24 (0, 0)) BK6.out hb') hj) HA2.out).mono ?_); rintro e w7 ⟨rfl, hb⟩; have HB7 := aM (below_step HB6.out hb); clear hb))
  go_ret
  exact ⟨rfl, HB7.out⟩

/-! ### impl_searched: function 54 (told by hand) -/
/-- What a search has found so far: the list, the map of the fewest moves, the map of the ways; all in blocks of the call's own. -/
structure impl_searched.St (w w' : World) (gb b1 b2 : Nat) (ok : Nat → Prop) (v : Value) (x : List ByteArray) (f g : ByteArray → Option Int) (c : Nat) : Prop where
 lst : Kd.R Kd.string 9 w' w.heap.size ok v x
 blk : w'.heap[gb]? = some (.cells #[v, .map (some b1), .map (some b2)] 52 (0, 0))
 far : MapS.M w' b1 c f
 way : MapS.M w' b2 c g
 ge : w.heap.size ≤ gb ∧ w.heap.size ≤ b1 ∧ w.heap.size ≤ b2 ∧ b1 ≠ b2
 bel : Below w.heap.size w w'
theorem impl_searched.St.below {w w' w2 : World} {gb b1 b2 : Nat} {ok : Nat → Prop} {v : Value} {x : List ByteArray} {f g : ByteArray → Option Int} {c : Nat} (h : impl_searched.St w w' gb b1 b2 ok v x f g c) (hb : Below w'.heap.size w' w2) : impl_searched.St w w2 gb b1 b2 ok v x f g c :=
 ⟨Kd.R_below h.lst hb, blk_below h.blk hb, MapS.M_below h.far hb, MapS.M_below h.way hb, h.ge, below_step h.bel hb⟩
theorem impl_searched.St.own {w w' : World} {gb b1 b2 : Nat} {ok : Nat → Prop} {v : Value} {x : List ByteArray} {f g : ByteArray → Option Int} {c n : Nat} {b : Nat} {q : ByteArray → Option Int} (h : impl_searched.St w w' gb b1 b2 ok v x f g c) (hM : MapS.M w' b n q) : some b ≠ v.ownBlock := fun e => by
 obtain ⟨cells, hc⟩ := Kd.R_typed h.lst b e.symm
 exact MapS.M_apart hM hc rfl
theorem impl_searched.St.more {w w' : World} {gb b1 b2 : Nat} {ok : Nat → Prop} {v : Value} {x : List ByteArray} {f g : ByteArray → Option Int} {c : Nat} (h : impl_searched.St w w' gb b1 b2 ok v x f g c) : impl_searched.St w w' gb b1 b2 ok v x f g (c + 1) :=
 ⟨h.lst, h.blk, MapS.M_mono h.far (Nat.le_succ _), MapS.M_mono h.way (Nat.le_succ _), h.ge, h.bel⟩
theorem impl_searched.St.put1 {w w' w2 : World} {gb b1 b2 : Nat} {ok : Nat → Prop} {v : Value} {x : List ByteArray} {f f2 g : ByteArray → Option Int} {c : Nat} (h : impl_searched.St w w' gb b1 b2 ok v x f g c) (hM : MapS.M w2 b1 (c + 1) f2) (hg : w'.grownBy w2 (some b1)) : impl_searched.St w w2 gb b1 b2 ok v x f2 g (c + 1) :=
 ⟨Kd.R_grown2 h.lst rfl hg (fun k hk => by cases hk; exact h.own h.far), blk_grown h.blk hg (fun e => MapS.M_apart h.far h.blk (Option.some.inj e)), hM, MapS.M_mono (MapS.M_grown h.way hg (fun e => h.ge.2.2.2 (Option.some.inj e).symm)) (Nat.le_succ _), h.ge, h.bel.grown hg h.bel.size (fun k hk => by cases hk; exact h.ge.2.1)⟩
theorem impl_searched.St.put2 {w w' w2 : World} {gb b1 b2 : Nat} {ok : Nat → Prop} {v : Value} {x : List ByteArray} {f g g2 : ByteArray → Option Int} {c : Nat} (h : impl_searched.St w w' gb b1 b2 ok v x f g c) (hM : MapS.M w2 b2 (c + 1) g2) (hg : w'.grownBy w2 (some b2)) : impl_searched.St w w2 gb b1 b2 ok v x f g2 (c + 1) :=
 ⟨Kd.R_grown2 h.lst rfl hg (fun k hk => by cases hk; exact h.own h.way), blk_grown h.blk hg (fun e => MapS.M_apart h.way h.blk (Option.some.inj e)), MapS.M_mono (MapS.M_grown h.far hg (fun e => h.ge.2.2.2 (Option.some.inj e))) (Nat.le_succ _), hM, h.ge, h.bel.grown hg h.bel.size (fun k hk => by cases hk; exact h.ge.2.2.1)⟩
theorem impl_searched.grown_set (W : World) (g i : Nat) (u : Value) : W.grownBy (W.setCell ⟨g, i, none⟩ u) (some g) :=
 ⟨rfl, rfl, rfl, by simp [World.setCell], fun k _ hk => Below.heap_setCell _ _ _ _ (fun e => hk (by rw [e]))⟩
/-- The list grown, its row put back into the struct. -/
theorem impl_searched.St.push {w w' w1 : World} {gb b1 b2 : Nat} {ok : Nat → Prop} {v v1 : Value} {x x1 : List ByteArray} {f g : ByteArray → Option Int} {c : Nat} (h : impl_searched.St w w' gb b1 b2 ok v x f g c) (ho : Kd.R Kd.string 9 w1 w.heap.size ok v1 x1) (hb : Below w.heap.size w w1) (hg : w'.grownBy w1 v.ownBlock) :
  impl_searched.St w (w1.setCell ⟨gb, 0, none⟩ v1) gb b1 b2 ok v1 x1 f g c := by
 have hk : w1.heap[gb]? = some (.cells #[v, .map (some b1), .map (some b2)] 52 (0, 0)) := blk_grown h.blk hg (Kd.R_ne h.lst h.blk (by decide))
 have h1 := MapS.M_grown h.far hg (h.own h.far)
 have h2 := MapS.M_grown h.way hg (h.own h.way)
 exact ⟨Kd.R_grown2 ho rfl (impl_searched.grown_set w1 gb 0 v1) (fun k hk2 => by cases hk2; exact Kd.R_ne ho hk (by decide)), blk_put hk 0 v1 rfl, MapS.M_set h1 _ _ (fun e => MapS.M_apart h1 hk e.symm), MapS.M_set h2 _ _ (fun e => MapS.M_apart h2 hk e.symm), h.ge, below_set hb h.ge.1⟩
/-- At most so many ways are held. -/
def impl_searched.cap (a : Int) : Int := if 1000000000000001 < a then 1000000000000001 else a
theorem impl_searched.cap_wf {a : Int} (h : (Lit.int .i64 a).wf = true) : (Lit.int .i64 (impl_searched.cap a)).wf = true := by
 unfold impl_searched.cap
 split
 ·decide
 ·exact h
mutual
def impl_searched.l0 (moves : Nat → ByteArray → Option (List ByteArray)) : Nat → List ByteArray → (ByteArray → Option Int) → (ByteArray → Option Int) → Nat → Int → Option (List ByteArray × (ByteArray → Option Int) × (ByteArray → Option Int))
 | 0, _, _, _, _, _ => none
 | k + 1, x, f, g, c, i => if i < (x.length : Int) then (if 0 ≤ i then ((moves k (rdOf ByteArray.empty x i)).bind fun ts => impl_searched.l1 moves k (rdOf ByteArray.empty x i) ts x f g c i 0) else none) else some (x, f, g)
def impl_searched.l1 (moves : Nat → ByteArray → Option (List ByteArray)) : Nat → ByteArray → List ByteArray → List ByteArray → (ByteArray → Option Int) → (ByteArray → Option Int) → Nat → Int → Int → Option (List ByteArray × (ByteArray → Option Int) × (ByteArray → Option Int))
 | 0, _, _, _, _, _, _, _, _ => none
 | k + 1, s, ts, x, f, g, c, i, j => if j < (ts.length : Int) then (if 0 ≤ j then (if s.size ≤ maxLen ∧ (rdOf ByteArray.empty ts j).size ≤ maxLen ∧ c < 4398046511104 ∧ x.length < 4398046511104 then
   (if (f (rdOf ByteArray.empty ts j)).isSome = true then
    (if (f (rdOf ByteArray.empty ts j)).getD 0 = wrap64 ((f s).getD 0 + 1)
     then impl_searched.l1 moves k s ts x f (MapS.upd g (rdOf ByteArray.empty ts j) (impl_searched.cap (wrap64 ((g (rdOf ByteArray.empty ts j)).getD 0 + (g s).getD 0)))) (c + 1) i (wrap64 (j + 1))
     else impl_searched.l1 moves k s ts x f g (c + 1) i (wrap64 (j + 1)))
   else
    (if wrap64 ((f s).getD 0 + 1) = wrap64 ((MapS.upd f (rdOf ByteArray.empty ts j) (wrap64 ((f s).getD 0 + 1)) s).getD 0 + 1)
     then impl_searched.l1 moves k s ts (x ++ [rdOf ByteArray.empty ts j]) (MapS.upd f (rdOf ByteArray.empty ts j) (wrap64 ((f s).getD 0 + 1))) (MapS.upd g (rdOf ByteArray.empty ts j) (impl_searched.cap (wrap64 ((g (rdOf ByteArray.empty ts j)).getD 0 + (g s).getD 0)))) (c + 1 + 1) i (wrap64 (j + 1))
     else impl_searched.l1 moves k s ts (x ++ [rdOf ByteArray.empty ts j]) (MapS.upd f (rdOf ByteArray.empty ts j) (wrap64 ((f s).getD 0 + 1))) g (c + 1 + 1) i (wrap64 (j + 1)))) else none) else none) else impl_searched.l0 moves k x f g c (wrap64 (i + 1))
end
def impl_searched.f (moves : Nat → ByteArray → Option (List ByteArray)) (k : Nat) (a0 : ByteArray) : Option (List ByteArray × (ByteArray → Option Int) × (ByteArray → Option Int)) := impl_searched.l0 moves k [a0] (MapS.upd (fun _ => none) a0 0) (MapS.upd (fun _ => none) a0 1) 1 0
theorem impl_searched.mono_l {moves : Nat → ByteArray → Option (List ByteArray)} (hr : ∀ x0 n, LeO (moves n x0) (moves (n + 1) x0)) : ∀ k, (∀ y0 y1 y2 y3 y4, LeO (impl_searched.l0 moves k y0 y1 y2 y3 y4) (impl_searched.l0 moves (k + 1) y0 y1 y2 y3 y4)) ∧ (∀ y0 y1 y2 y3 y4 y5 y6 y7, LeO (impl_searched.l1 moves k y0 y1 y2 y3 y4 y5 y6 y7) (impl_searched.l1 moves (k + 1) y0 y1 y2 y3 y4 y5 y6 y7))
 | 0 => ⟨fun _ _ _ _ _ r h => by simp [impl_searched.l0] at h, fun _ _ _ _ _ _ _ _ r h => by simp [impl_searched.l1] at h⟩
 | k + 1 => by
  obtain ⟨ih0, ih1⟩ := impl_searched.mono_l hr k
  refine ⟨?_, ?_⟩
  ·intro y0 y1 y2 y3 y4
   unfold impl_searched.l0
   repeat' first
   | (with_reducible exact ih1 _ _ _ _ _ _ _ _)
   | (with_reducible exact hr _ _)
   | (with_reducible exact LeO.refl _)
   | (with_reducible exact LeO.none _)
   | (with_reducible refine LeO.ite ?_ ?_)
   | (with_reducible refine LeO.bind ?_ (fun _ => ?_))
   | exact ih1 _ _ _ _ _ _ _ _
   | exact hr _ _
   | exact LeO.none _
   | refine LeO.ite ?_ ?_
   | refine LeO.bind ?_ (fun _ => ?_)
  ·intro y0 y1 y2 y3 y4 y5 y6 y7
   unfold impl_searched.l1
   repeat' first
   | (with_reducible exact ih1 _ _ _ _ _ _ _ _)
   | (with_reducible exact ih0 _ _ _ _ _)
   | (with_reducible exact LeO.refl _)
   | (with_reducible exact LeO.none _)
   | (with_reducible refine LeO.ite ?_ ?_)
   | exact ih1 _ _ _ _ _ _ _ _
   | exact ih0 _ _ _ _ _
   | exact LeO.none _
   | refine LeO.ite ?_ ?_
theorem impl_searched.mono {moves : Nat → ByteArray → Option (List ByteArray)} (hr : ∀ x0 n, LeO (moves n x0) (moves (n + 1) x0)) : ∀ a0 k, LeO (impl_searched.f moves k a0) (impl_searched.f moves (k + 1) a0) := fun _ k => (impl_searched.mono_l hr k).1 _ _ _ _ _
theorem impl_searched.goesV_ {ops : Array Oper} {rest : List Oper} {oi : Oper} {a : Act} {w : World} {Q : Exit → Act → World → Prop} {f : FuncId} {lb : Array Value} {as_ : Array Operand} {ts : Array TypeId} {v : Operand} (N : Option Tmp) (hd : oi.dst = N) (hg : oi.guard = none) (args : Array Value)
  (hop : oi.op = .call { callee := .value v, args := as_, argTypes := ts }) (hv : a.eval v = .func (.func f) #[] lb) (hargs : as_.map a.eval = args) (eg : Go.Proofs.Enters Tryd.prog f)
  (h : Calls Tryd.prog f (args ++ lb) w fun e w' => ∃ v, e = .returned v ∧ wpList Tryd.prog ops Q rest (a.put N v) w') : wpList Tryd.prog ops Q (oi :: rest) a w := by
 refine wpList_plain hg fun K hK => ?_
 have he := eg (args ++ lb) w
 have hrun : (execOp a.eval oi).run Tryd.prog w = .ok (.enter f (args ++ lb)) w := by
  unfold execOp
  simp [hop, resolve, Deferred.ofValue, invoke, hv, hargs, he]
 unfold Oper.wp
 rw [hrun, Oper.upon_enter]
 refine h.mono fun e w'' hh => ?_
 obtain ⟨v, rfl, hk⟩ := hh
 subst hd
 exact hK _ _ hk
set_option maxHeartbeats 8000000 in
set_option maxRecDepth 100000 in
theorem impl_searched.calls (gf : Nat) (lb : Array Value) (eg : Go.Proofs.Enters Tryd.prog gf) (moves : Nat → ByteArray → Option (List ByteArray)) (k : Nat) (a0 : ByteArray) (r : List ByteArray × (ByteArray → Option Int) × (ByteArray → Option Int)) (w : World) (hs : a0.size ≤ maxLen)
  (hp : ∀ (j : Nat) (x : ByteArray) (ts : List ByteArray) (W : World), Below w.heap.size w W → moves j x = some ts → Calls Tryd.prog gf (#[.string x] ++ lb) W fun e w' => ∃ v, e = .returned v ∧ Kd.R Kd.string 9 w' W.heap.size (fun _ => True) v ts ∧ Below W.heap.size W w')
  (h : impl_searched.f moves k a0 = some r) :
  Calls Tryd.prog 54 #[.string a0, .func (.func gf) #[] lb] w fun e w' => ∃ gb, e = .returned (.pointer (some ⟨gb, 0, none⟩)) ∧ ∃ b1 b2 v c, impl_searched.St w w' gb b1 b2 (fun _ => True) v r.1 r.2.1 r.2.2 c := by
 have hmm := @run_makeMap Tryd.prog
 have HP_ := aM hp
 clear hp
 have EG_ := aM eg
 clear eg
 have HS := aM hs
 clear hs
 have H' := aM (show impl_searched.l0 moves k [a0] (MapS.upd (fun _ => none) a0 0) (MapS.upd (fun _ => none) a0 1) 1 0 = some r from h)
 clear h
 go_enter Tryd.func54, Tryd.ntmps54
 go_wp2_with (first | ((with_reducible refine gate_dst (N := 13) rfl ?_); refine Kd.R_lit Kd.string _ 9 ?hg (N := 13) ?hd (xs := ([a0] : List ByteArray)) (inner := [.string a0]) (ok := fun _ => True) (okp := fun _ => True) ?hr ?hp (fun _ hk => hk) trivial (Below.refl _ _) (Nat.le_refl _) (by simp) ?_; (case hd => rfl); (case hg => rfl); (case hr => first | (go_simp; done) | (go_simp; rfl)); (case hp => exact (Reps.one (show Kd.M Kd.string _ _ _ a0 [.string a0] from rfl) (Reps.none _ _))); intro v1 w1 ho hb hg_ hnew_; clear hg_ hnew_; obtain ⟨A1, c1, eo⟩ := Kd.R_slice ho; subst eo; have HL := aM ho; have HB := aM hb; clear ho hb) | (refine MapS.upd_ (MapS.M_made _) (by decide) HS.out (c := 0) (by decide) rfl (.tmp 14) _ _ (Or.inr rfl) rfl rfl rfl ?_; intro w2 hM hg2; have HM1 := aM hM; have HG2 := aM hg2; clear hM hg2) | (refine MapS.upd_ (MapS.M_made _) (by decide) HS.out (c := 1) (by decide) rfl (.tmp 17) _ _ (Or.inr rfl) rfl rfl rfl ?_; intro w3 hM hg3; have HM2 := aM hM; have HG3 := aM hg3; clear hM hg3) | ((with_reducible refine gate_dst (N := 21) rfl ?_); refine box_event ?hg (N := 21) ?hd (cs := #[.slice A1 [a0].length c1, .map (some w1.heap.size), .map (some w2.heap.size)]) (t := 52) ?hr ?_; (case hd => rfl); (case hg => rfl); (case hr => first | (go_simp; done) | (go_simp; rfl)); intro gb hg4 w4 hbox hb4; have BK := aM hbox; have HB4 := aM hb4; have HG4 := aM hg4; clear hbox hb4 hg4))
 have S0 : impl_searched.St w w4 gb w1.heap.size w2.heap.size (fun _ => True) (.slice A1 [a0].length c1) [a0] (MapS.upd (fun _ => none) a0 0) (MapS.upd (fun _ => none) a0 1) 1 := by
  have hle : w.heap.size ≤ w1.heap.size := HB.out.size
  have hl1 : w1.heap.size < w2.heap.size := by have := HG2.out.size; simp at this; omega
  have hl2 : w2.heap.size ≤ w3.heap.size := by have := HG3.out.size; simp at this; omega
  have ha := Kd.R_grown2 (Kd.R_alloc HL.out (.map #[] 0)) rfl HG2.out (fun k hk => by cases hk; intro e; exact absurd (Kd.R_lt HL.out _ e.symm) (Nat.lt_irrefl _))
  have hb := Kd.R_grown2 (Kd.R_alloc ha (.map #[] 0)) rfl HG3.out (fun k hk => by cases hk; intro e; exact absurd (Kd.R_lt ha _ e.symm) (Nat.lt_irrefl _))
  have hm := MapS.M_grown (MapS.M_alloc HM1.out (.map #[] 0)) HG3.out (fun e => by have := Option.some.inj e; omega)
  have hB2 : Below w.heap.size w w2 := (below_alloc HB.out (.map #[] 0)).grown HG2.out (by simp; omega) (fun k hk => by cases hk; exact hle)
  have hB3 : Below w.heap.size w w3 := (below_alloc hB2 (.map #[] 0)).grown HG3.out (by simp; omega) (fun k hk => by cases hk; omega)
  exact ⟨Kd.R_below hb HB4.out, BK.out, MapS.M_below hm HB4.out, MapS.M_below HM2.out HB4.out, ⟨by rw [HG4.out]; omega, hle, by omega, by omega⟩, below_step hB3 HB4.out⟩
 have SS := aM S0
 clear S0 HL HB HM1 HM2 HG2 HG3 BK HB4 HG4
 generalize hn1 : w1.heap.size = b1 at SS ⊢
 generalize hn2 : w2.heap.size = b2 at SS ⊢
 clear hn1 hn2
 go_loopg [6] k (fun kq v6 w' => ∃ (v : Value) (x : List ByteArray) (f g : ByteArray → Option Int) (c : Nat) (i : Int), v6 = .int .i64 i ∧ Aside0 (impl_searched.l0 moves kq x f g c i = some r) ∧ Aside0 (kq ≤ k) ∧ Aside0 (impl_searched.St w w' gb b1 b2 (fun _ => True) v x f g c))
 case atStart => exact ⟨_, [a0], _, _, 1, 0, (by first | rfl | (simp; done) | (simp [*]; done)), H', ⟨Nat.le_refl _⟩, SS⟩
 case round =>
  clear H' SS
  obtain ⟨v, x, f, g, c, i, rfl, HA, HK1, SS⟩ := hrel
  cases gk with
  | zero => exact absurd HA.out (by simp [impl_searched.l0])
  | succ k1 =>
   have H := HA.out
   clear HA
   simp only [impl_searched.l0] at H
   obtain ⟨A2, c2, eo⟩ := Kd.R_slice SS.out.lst
   subst eo
   have hz0 : wr.cell? ⟨gb, 0, none⟩ = some (.slice A2 x.length c2) := (blk_cell SS.out.blk 0).trans rfl
   by_cases c5 : i < (x.length : Int)
   ·rw [if_pos c5] at H
    have c5b0 : decide (i < (x.length : Int)) = true := decide_eq_true c5
    clear c5
    by_cases c6 : 0 ≤ i
    ·rw [if_pos c6] at H
     have c6b0 : decide (0 ≤ i) = true := decide_eq_true c6
     clear c6
     obtain ⟨ts, A70, H⟩ := Option.bind_eq_some_iff.mp H
     have A7 := aM A70
     have H' := aM H
     clear A70 H
     have p1 : 0 ≤ (i : Int) := of_decide_eq_true (by assumption)
     have q1 : i < (x.length : Int) := of_decide_eq_true (by assumption)
     obtain ⟨ad1, e1, hx1⟩ := Kd.at_string (Kd.R_reads' SS.out.lst).2.2 i p1 q1
     cases e1
     replace p1 := eq_true p1
     replace q1 := eq_true q1
     generalize hs1 : rdOf ByteArray.empty x i = s1 at hx1 A7 H'
     clear hs1
     go_wp2_with (first | ((with_reducible refine gate_dst (N := 40) rfl ?_); refine impl_searched.goesV_ (f := gf) (lb := lb) (some 40) rfl rfl #[.string s1] rfl rfl (by (try simp only [List.map_toArray, List.map_cons, List.map_nil]); first | done | rfl) EG_.out ?_; (with_reducible refine (HP_.out k1 s1 ts _ SS.out.bel A7.out).mono ?_); rintro e w8 ⟨vt, rfl, ho, hb⟩; refine ⟨_, rfl, ?_⟩; obtain ⟨A3, c3, eo⟩ := Kd.R_slice ho; subst eo; have ST := aM (Kd.R_lower (Kd.R_new' ho (Kd.R_lt SS.out.lst)) SS.out.bel.size); have n0 := aM (show impl_searched.St w w8 gb b1 b2 (fun k => True ∧ some k ≠ (.slice A3 ts.length c3 : Value).ownBlock) (.slice (some ad1) x.length c2) x f g c from ⟨Kd.R_elder' SS.out.lst (Kd.R_base ho) hb, (SS.out.below hb).blk, (SS.out.below hb).far, (SS.out.below hb).way, SS.out.ge, (SS.out.below hb).bel⟩); clear SS; have SS := n0; clear n0 ho hb))
     clear hx1 hz0 p1 q1
     go_loopg [42] k1 (fun kq v42 w' => ∃ (v : Value) (x : List ByteArray) (f g : ByteArray → Option Int) (c : Nat) (j : Int), v42 = .int .i64 j ∧ Aside0 (impl_searched.l1 moves kq s1 ts x f g c i j = some r) ∧ Aside0 (kq ≤ k1) ∧ Aside0 (Kd.R Kd.string 9 w' w.heap.size (fun k => True ∧ some k ≠ v.ownBlock) (.slice A3 ts.length c3) ts) ∧ Aside0 (impl_searched.St w w' gb b1 b2 (fun k => True ∧ some k ≠ (.slice A3 ts.length c3 : Value).ownBlock) v x f g c))
     case atStart => exact ⟨_, x, f, g, c, 0, (by first | rfl | (simp; done) | (simp [*]; done)), H', ⟨Nat.le_refl _⟩, ST, SS⟩
     case round =>
      clear H' ST SS c5b0 c6b0 A7
      obtain ⟨v, x, f, g, c, j, rfl, HA, HK2, ST, SS⟩ := hrel
      cases gk with
      | zero => exact absurd HA.out (by simp [impl_searched.l1])
      | succ k2 =>
       have H := HA.out
       clear HA
       simp only [impl_searched.l1] at H
       by_cases c7 : j < (ts.length : Int)
       ·rw [if_pos c7] at H
        have c7b0 : decide (j < (ts.length : Int)) = true := decide_eq_true c7
        clear c7
        by_cases c8 : 0 ≤ j
        ·rw [if_pos c8] at H
         have c8b0 : decide (0 ≤ j) = true := decide_eq_true c8
         clear c8
         obtain ⟨A4, c4, eo⟩ := Kd.R_slice SS.out.lst
         subst eo
         have p2 : 0 ≤ (j : Int) := of_decide_eq_true (by assumption)
         have q2 : j < (ts.length : Int) := of_decide_eq_true (by assumption)
         obtain ⟨ad2, e2, hx2⟩ := Kd.at_string (Kd.R_reads' ST.out).2.2 j p2 q2
         cases e2
         replace p2 := eq_true p2
         replace q2 := eq_true q2
         generalize hs2 : rdOf ByteArray.empty ts j = t at hx2 H
         clear hs2
         by_cases c9 : s1.size ≤ maxLen ∧ t.size ≤ maxLen ∧ c < 4398046511104 ∧ x.length < 4398046511104
         ·rw [if_pos c9] at H
          have G9 := aM c9
          clear c9
          have hz0 : wr.cell? ⟨gb, 0, none⟩ = some (.slice A4 x.length c4) := (blk_cell SS.out.blk 0).trans rfl
          have hz1 : wr.cell? ⟨gb, 1, none⟩ = some (.map (some b1)) := (blk_cell SS.out.blk 1).trans rfl
          have hz2 : wr.cell? ⟨gb, 2, none⟩ = some (.map (some b2)) := (blk_cell SS.out.blk 2).trans rfl
          have hzf := blk_frozen SS.out.blk 0
          obtain ⟨n1, hn1⟩ : ∃ n, (f s1).getD 0 = n := ⟨_, rfl⟩
          obtain ⟨n2, hn2⟩ : ∃ n, (f t).getD 0 = n := ⟨_, rfl⟩
          have N1 := aM hn1
          have N2 := aM hn2
          by_cases c10 : (f t).isSome = true
          ·rw [if_pos c10, hn1, hn2] at H
           have F10 := aM c10
           clear c10 hn1 hn2
           by_cases c11 : n2 = wrap64 (n1 + 1)
           ·rw [if_pos c11] at H
            have c11b0 : (n2 == wrap64 (n1 + 1)) = true := beq_iff_eq.mpr c11
            clear c11
            obtain ⟨n3, hn3⟩ : ∃ n, (g t).getD 0 = n := ⟨_, rfl⟩
            obtain ⟨n4, hn4⟩ : ∃ n, (g s1).getD 0 = n := ⟨_, rfl⟩
            rw [hn3, hn4] at H
            have H' := aM H
            clear H
            go_wp2_with (first | (at_lookup; refine MapS.look2_v SS.out.far N2.out F10.out G9.out.2.1 rfl _ _ rfl rfl rfl ?_) | (at_lookup; refine MapS.look_v SS.out.far N1.out G9.out.1 rfl _ _ rfl rfl rfl ?_))
            have hl3 := MapS.M_look (MapS.M_drew SS.out.way) t G9.out.2.1
            have hl4 := MapS.M_look (MapS.M_drew SS.out.way) s1 G9.out.1
            rw [hn3] at hl3
            rw [hn4] at hl4
            clear hn3 hn4
            obtain ⟨w9, hput, hM, hg9⟩ := MapS.M_put (MapS.M_drew SS.out.way) (Nat.lt_of_lt_of_le G9.out.2.2.1 (by decide)) t G9.out.2.1 (impl_searched.cap (wrap64 (n3 + n4))) (impl_searched.cap_wf (wrap64_wf _))
            simp only [impl_searched.cap] at hput
            have SD := SS.out.below (Below.refl _ _).drew
            have n0 := aM (SD.put2 hM hg9)
            have n9 := aM (Kd.R_grown2 (Kd.R_drew ST.out) rfl hg9 (fun k hk => by cases hk; intro e; obtain ⟨cells, hc⟩ := Kd.R_typed ST.out _ e.symm; exact MapS.M_apart SS.out.way hc rfl))
            clear hM hg9 SD
            go_region
            all_goals go_wp2
            all_goals (go_roundg k2; (case measure => have := HK1.out; have := HK2.out; omega); (case rel => exact ⟨_, _, _, _, _, (wrap64 (j + 1)), (by first | rfl | (simp; done) | (simp [*]; done)), H', ⟨by have := HK1.out; have := HK2.out; omega⟩, n9, n0⟩))
           ·rw [if_neg c11] at H
            have c11b0 : (n2 == wrap64 (n1 + 1)) = false := beq_eq_false_iff_ne.mpr c11
            clear c11
            have H' := aM H
            clear H
            go_wp2_with (first | (at_lookup; refine MapS.look2_v SS.out.far N2.out F10.out G9.out.2.1 rfl _ _ rfl rfl rfl ?_) | (at_lookup; refine MapS.look_v SS.out.far N1.out G9.out.1 rfl _ _ rfl rfl rfl ?_))
            go_roundg k2
            case measure => have := HK1.out; have := HK2.out; omega
            case rel => exact ⟨_, x, f, g, c + 1, (wrap64 (j + 1)), (by first | rfl | (simp; done) | (simp [*]; done)), H', ⟨by have := HK1.out; have := HK2.out; omega⟩, ST, ⟨SS.out.more⟩⟩
          ·rw [if_neg c10, hn1] at H
           have F10 := aM (Bool.eq_false_iff.mpr c10)
           clear c10 hn1 hn2
           obtain ⟨n5, hn5⟩ : ∃ n, (MapS.upd f t (wrap64 (n1 + 1)) s1).getD 0 = n := ⟨_, rfl⟩
           rw [hn5] at H
           have N5 := aM hn5
           clear hn5
           obtain ⟨y, hy⟩ : ∃ y : List ByteArray, y = x ++ [t] := ⟨_, rfl⟩
           rw [← hy] at H
           have NY := aM hy
           clear hy
           by_cases c11 : wrap64 (n1 + 1) = wrap64 (n5 + 1)
           ·rw [if_pos c11] at H
            have c11b0 : (wrap64 (n1 + 1) == wrap64 (n5 + 1)) = true := beq_iff_eq.mpr c11
            clear c11
            obtain ⟨n3, hn3⟩ : ∃ n, (g t).getD 0 = n := ⟨_, rfl⟩
            obtain ⟨n4, hn4⟩ : ∃ n, (g s1).getD 0 = n := ⟨_, rfl⟩
            rw [hn3, hn4] at H
            have H' := aM H
            clear H
            go_wp2_with (first | (at_lookup; refine MapS.look2_v SS.out.far N2.out F10.out G9.out.2.1 rfl _ _ rfl rfl rfl ?_) | (at_lookup; refine MapS.look_v SS.out.far N1.out G9.out.1 rfl _ _ rfl rfl rfl ?_) | (at_lookup; refine MapS.look_v SS.out.far N5.out G9.out.1 rfl _ _ rfl rfl rfl ?_) | (at_mapUpdate; refine MapS.upd_ SS.out.far (Nat.lt_of_lt_of_le G9.out.2.2.1 (by decide)) G9.out.2.1 (c := wrap64 (n1 + 1)) (wrap64_wf _) rfl (.tmp 67) _ _ (Or.inl rfl) rfl rfl rfl ?_; intro w5 hM hg5; have m0 := aM (SS.out.put1 hM hg5); have m1 := aM (Kd.R_grown2 ST.out rfl hg5 (fun k hk => by cases hk; intro e; obtain ⟨cells, hc⟩ := Kd.R_typed ST.out _ e.symm; exact MapS.M_apart SS.out.far hc rfl)); clear SS ST hz0 hz1 hz2 hzf hM hg5; have SS := m0; have ST := m1; clear m0 m1; have hz0 : w5.cell? ⟨gb, 0, none⟩ = some (.slice A4 x.length c4) := (blk_cell SS.out.blk 0).trans rfl) | ((with_reducible refine gate_builtin (b := .append) (xs := #[.tmp 74, .tmp 76]) rfl ?_); at_builtin; refine Kd.R_append Kd.string (w0 := w) w.heap.size rfl (.tmp 74) (.tmp 76) 24 9 (.string ⟨#[]⟩) 16 rfl Tryd.underlying24 info9 rfl (by decide) (by omega) (.slice A4 x.length c4) x t [.string t] (fun k => True ∧ some k ≠ (.slice (some ad2) ts.length c3 : Value).ownBlock) (fun _ => False) rfl rfl ?aP (fun _ hk => hk.elim) ?aF ?aO ?aB ?aS ?aL ?_; (case aP => exact rfl); (case aB => exact SS.out.bel); (case aF => exact fun k hk => ⟨trivial, fun e => absurd (Kd.R_lt ST.out k e.symm) (Nat.not_lt.2 hk)⟩); (case aO => exact SS.out.lst); (case aS => exact SS.out.bel.size); (case aL => have := G9.out.2.2.2; omega); intro v6 w6 ho hb hg hat; rw [← NY.out] at ho; obtain ⟨A6, c6, eo⟩ := Kd.R_slice ho; subst eo; have HO6 := aM ho; have HB6 := aM hb; have HG6 := aM hg; have ST6 := aM (Kd.R_after ST.out hg hat); have BK6 := aM (blk_grown SS.out.blk hg (Kd.R_ne SS.out.lst SS.out.blk (by decide))); clear ho hb hg hat ST hz0; have hz0 : w6.cell? ⟨gb, 0, none⟩ = some (.slice A4 x.length c4) := (blk_cell BK6.out 0).trans rfl; have hzf := blk_frozen BK6.out 0) | ((with_reducible refine gate_store (t := 24) (p := 79) rfl ?_); refine store_event (t := 24) (p := 79) (v := ?vo) (w1 := (w6.setCell ⟨gb, 0, none⟩ (.slice A6 y.length c6))) ?hg ?ho ?hn ?hr ?_; (case ho => rfl); (case hg => rfl); (case hn => rfl); (case hr => first | (go_simp; done) | (go_simp; rfl)); intro w7 hw; have m0 := SS.out.push HO6.out HB6.out HG6.out; rw [← hw] at m0; have m0 := aM m0; have m1 := Kd.R_grown2 ST6.out rfl (impl_searched.grown_set w6 gb 0 (.slice A6 y.length c6)) (fun k hk => by cases hk; exact Kd.R_ne ST6.out BK6.out (by decide)); rw [← hw] at m1; have m1 := aM m1; clear SS ST6 HO6 HB6 HG6 BK6 hz0 hzf hw; have SS := m0; have ST := m1; clear m0 m1; have hz1 : w7.cell? ⟨gb, 1, none⟩ = some (.map (some b1)) := (blk_cell SS.out.blk 1).trans rfl; have hz2 : w7.cell? ⟨gb, 2, none⟩ = some (.map (some b2)) := (blk_cell SS.out.blk 2).trans rfl))
            have hl3 := MapS.M_look (MapS.M_drew SS.out.way) t G9.out.2.1
            have hl4 := MapS.M_look (MapS.M_drew SS.out.way) s1 G9.out.1
            rw [hn3] at hl3
            rw [hn4] at hl4
            clear hn3 hn4
            obtain ⟨w9, hput, hM, hg9⟩ := MapS.M_put (MapS.M_drew SS.out.way) (Nat.lt_of_lt_of_le (Nat.succ_lt_succ G9.out.2.2.1) (by decide)) t G9.out.2.1 (impl_searched.cap (wrap64 (n3 + n4))) (impl_searched.cap_wf (wrap64_wf _))
            simp only [impl_searched.cap] at hput
            have SD := SS.out.below (Below.refl _ _).drew
            have n0 := aM (SD.put2 hM hg9)
            have n9 := aM (Kd.R_grown2 (Kd.R_drew ST.out) rfl hg9 (fun k hk => by cases hk; intro e; obtain ⟨cells, hc⟩ := Kd.R_typed ST.out _ e.symm; exact MapS.M_apart SS.out.way hc rfl))
            clear hM hg9 SD
            go_region
            all_goals go_wp2
            all_goals (go_roundg k2; (case measure => have := HK1.out; have := HK2.out; omega); (case rel => exact ⟨_, _, _, _, _, (wrap64 (j + 1)), (by first | rfl | (simp; done) | (simp [*]; done)), H', ⟨by have := HK1.out; have := HK2.out; omega⟩, n9, n0⟩))
           ·rw [if_neg c11] at H
            have c11b0 : (wrap64 (n1 + 1) == wrap64 (n5 + 1)) = false := beq_eq_false_iff_ne.mpr c11
            clear c11
            have H' := aM H
            clear H
            go_wp2_with (first | (at_lookup; refine MapS.look2_v SS.out.far N2.out F10.out G9.out.2.1 rfl _ _ rfl rfl rfl ?_) | (at_lookup; refine MapS.look_v SS.out.far N1.out G9.out.1 rfl _ _ rfl rfl rfl ?_) | (at_lookup; refine MapS.look_v SS.out.far N5.out G9.out.1 rfl _ _ rfl rfl rfl ?_) | (at_mapUpdate; refine MapS.upd_ SS.out.far (Nat.lt_of_lt_of_le G9.out.2.2.1 (by decide)) G9.out.2.1 (c := wrap64 (n1 + 1)) (wrap64_wf _) rfl (.tmp 67) _ _ (Or.inl rfl) rfl rfl rfl ?_; intro w5 hM hg5; have m0 := aM (SS.out.put1 hM hg5); have m1 := aM (Kd.R_grown2 ST.out rfl hg5 (fun k hk => by cases hk; intro e; obtain ⟨cells, hc⟩ := Kd.R_typed ST.out _ e.symm; exact MapS.M_apart SS.out.far hc rfl)); clear SS ST hz0 hz1 hz2 hzf hM hg5; have SS := m0; have ST := m1; clear m0 m1; have hz0 : w5.cell? ⟨gb, 0, none⟩ = some (.slice A4 x.length c4) := (blk_cell SS.out.blk 0).trans rfl) | ((with_reducible refine gate_builtin (b := .append) (xs := #[.tmp 74, .tmp 76]) rfl ?_); at_builtin; refine Kd.R_append Kd.string (w0 := w) w.heap.size rfl (.tmp 74) (.tmp 76) 24 9 (.string ⟨#[]⟩) 16 rfl Tryd.underlying24 info9 rfl (by decide) (by omega) (.slice A4 x.length c4) x t [.string t] (fun k => True ∧ some k ≠ (.slice (some ad2) ts.length c3 : Value).ownBlock) (fun _ => False) rfl rfl ?aP (fun _ hk => hk.elim) ?aF ?aO ?aB ?aS ?aL ?_; (case aP => exact rfl); (case aB => exact SS.out.bel); (case aF => exact fun k hk => ⟨trivial, fun e => absurd (Kd.R_lt ST.out k e.symm) (Nat.not_lt.2 hk)⟩); (case aO => exact SS.out.lst); (case aS => exact SS.out.bel.size); (case aL => have := G9.out.2.2.2; omega); intro v6 w6 ho hb hg hat; rw [← NY.out] at ho; obtain ⟨A6, c6, eo⟩ := Kd.R_slice ho; subst eo; have HO6 := aM ho; have HB6 := aM hb; have HG6 := aM hg; have ST6 := aM (Kd.R_after ST.out hg hat); have BK6 := aM (blk_grown SS.out.blk hg (Kd.R_ne SS.out.lst SS.out.blk (by decide))); clear ho hb hg hat ST hz0; have hz0 : w6.cell? ⟨gb, 0, none⟩ = some (.slice A4 x.length c4) := (blk_cell BK6.out 0).trans rfl; have hzf := blk_frozen BK6.out 0) | ((with_reducible refine gate_store (t := 24) (p := 79) rfl ?_); refine store_event (t := 24) (p := 79) (v := ?vo) (w1 := (w6.setCell ⟨gb, 0, none⟩ (.slice A6 y.length c6))) ?hg ?ho ?hn ?hr ?_; (case ho => rfl); (case hg => rfl); (case hn => rfl); (case hr => first | (go_simp; done) | (go_simp; rfl)); intro w7 hw; have m0 := SS.out.push HO6.out HB6.out HG6.out; rw [← hw] at m0; have m0 := aM m0; have m1 := Kd.R_grown2 ST6.out rfl (impl_searched.grown_set w6 gb 0 (.slice A6 y.length c6)) (fun k hk => by cases hk; exact Kd.R_ne ST6.out BK6.out (by decide)); rw [← hw] at m1; have m1 := aM m1; clear SS ST6 HO6 HB6 HG6 BK6 hz0 hzf hw; have SS := m0; have ST := m1; clear m0 m1; have hz1 : w7.cell? ⟨gb, 1, none⟩ = some (.map (some b1)) := (blk_cell SS.out.blk 1).trans rfl; have hz2 : w7.cell? ⟨gb, 2, none⟩ = some (.map (some b2)) := (blk_cell SS.out.blk 2).trans rfl))
            go_roundg k2
            case measure => have := HK1.out; have := HK2.out; omega
            case rel => exact ⟨_, _, _, _, _, (wrap64 (j + 1)), (by first | rfl | (simp; done) | (simp [*]; done)), H', ⟨by have := HK1.out; have := HK2.out; omega⟩, ST, ⟨SS.out.more⟩⟩
         ·rw [if_neg c9] at H
          exact absurd H (by simp)
        ·rw [if_neg c8] at H
         exact absurd H (by simp)
       ·rw [if_neg c7] at H
        have c7b0 : decide (j < (ts.length : Int)) = false := decide_eq_false c7
        clear c7
        have H' := aM H
        clear H
        go_wp2
        go_roundg k2
        case measure => have := HK1.out; have := HK2.out; omega
        case rel => exact ⟨v, x, f, g, c, (wrap64 (i + 1)), (by first | rfl | (simp; done) | (simp [*]; done)), H', ⟨by have := HK1.out; have := HK2.out; omega⟩, ⟨⟨Kd.R_mono SS.out.lst (fun _ _ => trivial), SS.out.blk, SS.out.far, SS.out.way, SS.out.ge, SS.out.bel⟩⟩⟩
    ·rw [if_neg c6] at H
     exact absurd H (by simp)
   ·rw [if_neg c5] at H
    have c5b0 : decide (i < (x.length : Int)) = false := decide_eq_false c5
    clear c5
    obtain rfl := Option.some.inj H
    go_wp2
    go_ret
    exact ⟨gb, rfl, b1, b2, _, c, SS.out⟩

end Go.Proofs.YtdgpkdgpmidaoaaDoor.PK
