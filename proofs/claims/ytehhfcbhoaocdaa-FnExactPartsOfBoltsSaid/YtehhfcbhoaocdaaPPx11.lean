-- written by a program of this session's (wip/tools), over the kit's print
import Derived.Test.YtehhfcbhoaocdaaPPx0
import Derived.Test.YtehhfcbhoaocdaaPPx7
import Derived.Test.YtehhfcbhoaocdaaPPx10
-- squeezed
-- squeezed twice
namespace Go.Proofs.Ytehhfcbhoaocdaa.PP
open Go.RowKit Go.Proofs.YtehhfcbhoaocdaaW.PrintWords Go.Proofs.YtehhfcbhoaocdaaW.PrintLast Go.Proofs.YtehhfcbhoaocdaaW.PrintMore
attribute [local go_sem] max2_int min2_int max_two min_two max_three min_three max_four min_four   -- for this text's walks alone
set_option linter.unusedVariables false
set_option linter.unusedSimpArgs false

/-! ### slices_IndexFunc_string_string: function 66 (told by hand) -/
theorem slices_IndexFunc_string_string.goesV_ {ops : Array Oper} {rest : List Oper} {oi : Oper} {a : Act} {w : World} {Q : Exit → Act → World → Prop} {f : FuncId} {lb : Array Value} {as_ : Array Operand} {ts : Array TypeId} {v : Operand} (N : Option Tmp) (hd : oi.dst = N) (hg : oi.guard = none) (args : Array Value)
  (hop : oi.op = .call { callee := .value v, args := as_, argTypes := ts }) (hv : a.eval v = .func (.func f) #[] lb) (hargs : as_.map a.eval = args) (eg : Go.Proofs.Enters Try.prog f)
  (h : Calls Try.prog f (args ++ lb) w fun e w' => ∃ v, e = .returned v ∧ wpList Try.prog ops Q rest (a.put N v) w') : wpList Try.prog ops Q (oi :: rest) a w := by
 refine wpList_plain hg fun K hK => ?_
 have he := eg (args ++ lb) w
 have hrun : (execOp a.eval oi).run Try.prog w = .ok (.enter f (args ++ lb)) w := by
  unfold execOp
  simp [hop, resolve, Deferred.ofValue, invoke, hv, hargs, he]
 unfold Oper.wp
 rw [hrun, Oper.upon_enter]
 refine h.mono fun e w'' hh => ?_
 obtain ⟨v, rfl, hk⟩ := hh
 subst hd
 exact hK _ _ hk
def slices_IndexFunc_string_string.l0 (rule : Nat → ByteArray → Option Bool) : Nat → List ByteArray → Int → Int → Option (Int)
 | 0, _, _, _ => none
 | k + 1, x0, x7, x8 => if x8 < x7 then (if 0 ≤ x8 then (if x8 < (x0.length : Int) then ((rule k (rdOf ByteArray.empty x0 x8)).bind fun t189 => (if t189 = true then (some x8) else (slices_IndexFunc_string_string.l0 rule k x0 x7 (wrap64 (x8 + 1))))) else (none)) else (none)) else (some (-1))
def slices_IndexFunc_string_string.f (rule : Nat → ByteArray → Option Bool) (k : Nat) (l0 : List ByteArray) : Option (Int) := slices_IndexFunc_string_string.l0 rule k l0 (l0.length : Int) 0
theorem slices_IndexFunc_string_string.mono_l {rule : Nat → ByteArray → Option Bool} (hr : ∀ x0 n, LeO (rule n x0) (rule (n + 1) x0)) : ∀ k, (∀ y0 y1 y2, LeO (slices_IndexFunc_string_string.l0 rule k y0 y1 y2) (slices_IndexFunc_string_string.l0 rule (k + 1) y0 y1 y2))
 | 0 => fun _ _ _ r h => by simp [slices_IndexFunc_string_string.l0] at h
 | k + 1 => by
  have ih0 := slices_IndexFunc_string_string.mono_l hr k
  ·intro y0 y1 y2
   unfold slices_IndexFunc_string_string.l0
   repeat' first
   | (with_reducible exact ih0 _ _ _)
   | (with_reducible exact hr _ _)
   | (with_reducible exact LeO.refl _)
   | (with_reducible exact LeO.none _)
   | (with_reducible refine LeO.ite ?_ ?_)
   | (with_reducible refine LeO.bind ?_ (fun _ => ?_))
   | exact ih0 _ _ _
   | exact hr _ _
   | exact LeO.none _
   | refine LeO.ite ?_ ?_
   | refine LeO.bind ?_ (fun _ => ?_)
theorem slices_IndexFunc_string_string.mono {rule : Nat → ByteArray → Option Bool} (hr : ∀ x0 n, LeO (rule n x0) (rule (n + 1) x0)) : ∀ a0 k, LeO (slices_IndexFunc_string_string.f rule k a0) (slices_IndexFunc_string_string.f rule (k + 1) a0) := by
 intro a0 k
 have ih0 := slices_IndexFunc_string_string.mono_l hr k
 unfold slices_IndexFunc_string_string.f
 repeat' first
   | (with_reducible exact ih0 _ _ _)
   | (with_reducible exact hr _ _)
   | (with_reducible exact LeO.refl _)
   | (with_reducible exact LeO.none _)
   | (with_reducible refine LeO.ite ?_ ?_)
   | (with_reducible refine LeO.bind ?_ (fun _ => ?_))
   | exact ih0 _ _ _
   | exact hr _ _
   | exact LeO.none _
   | refine LeO.ite ?_ ?_
   | refine LeO.bind ?_ (fun _ => ?_)
set_option maxHeartbeats 8000000 in
set_option maxRecDepth 100000 in
theorem slices_IndexFunc_string_string.calls (g : Nat) (lb : Array Value) (eg : Go.Proofs.Enters Try.prog g) (rule : Nat → ByteArray → Option Bool) (k : Nat) (A0 : Option Addr) (c0 : Nat) (l0 : List ByteArray) (r : Int) (w : World) (hr0 : Kd.C Kd.string w A0 l0.length l0) (hc0 : l0.length ≤ c0) 
  (hp : ∀ (j : Nat) (x : ByteArray) (b : Bool) (W : World), Below w.heap.size w W → rule j x = some b → Calls Try.prog g (#[.string x] ++ lb) W fun e w' => e = .returned (.bool b) ∧ Below W.heap.size W w')
  (h : slices_IndexFunc_string_string.f rule k l0 = some r) :
  Calls Try.prog 66 #[.slice A0 l0.length c0, .func (.func g) #[] lb] w fun e w' => e = .returned (.int .i64 r) ∧ Below w.heap.size w w' := by
 have HP_ := aM hp
 clear hp
 have EG_ := aM eg
 clear eg
 have HR0 := aM hr0
 have HC0 := aM hc0
 clear hr0 hc0
 have HB := aM (Below.refl w.heap.size w)
 have H : (slices_IndexFunc_string_string.l0 rule k l0 (l0.length : Int) 0) = some r := h
 clear h
 have H' := aM H
 clear H
 go_enter Try.func66, Try.ntmps66
 go_wp2
 go_loopg [8] k (fun kq v8 w' => ∃ (x8_1 : Int), v8 = .int .i64 x8_1 ∧ Aside0 (slices_IndexFunc_string_string.l0 rule kq l0 (l0.length : Int) x8_1 = some r) ∧ Aside0 (kq ≤ k) ∧ Aside0 (Below w.heap.size w w'))
 case atStart => exact ⟨(0), rfl, H', ⟨Nat.le_refl _⟩, HB⟩
 case round =>
  clear H'
  try clear c1
  try clear p2
  obtain ⟨x8_1, rfl, HA, HK1, HB⟩ := hrel
  cases gk with
  | zero => exact absurd HA.out (by simp [slices_IndexFunc_string_string.l0])
  | succ k1 =>
   have H := HA.out
   clear HA
   simp only [slices_IndexFunc_string_string.l0] at H
   by_cases c3 : x8_1 < (l0.length : Int)
   ·rw [if_pos c3] at H
    have c3b0 : decide (x8_1 < (l0.length : Int)) = true := decide_eq_true c3
    clear c3
    by_cases c4 : 0 ≤ x8_1
    ·rw [if_pos c4] at H
     have c4b0 : decide (0 ≤ x8_1) = true := decide_eq_true c4
     clear c4
     by_cases c5 : x8_1 < (l0.length : Int)
     ·rw [if_pos c5] at H
      have c5b0 : decide (x8_1 < (l0.length : Int)) = true := decide_eq_true c5
      clear c5
      replace H := Option.bind_eq_some_iff.mp H
      obtain ⟨t189, A60, H⟩ := H
      replace H : (if t189 = true then (some x8_1) else (slices_IndexFunc_string_string.l0 rule k1 l0 (l0.length : Int) (wrap64 (x8_1 + 1)))) = some r := H
      have A6 := aM A60
      clear A60
      by_cases c7 : t189 = true
      ·subst c7
       have H1 : (some x8_1) = some r := by rw [if_pos rfl] at H; exact H
       clear H; have H := H1; clear H1
       obtain rfl := Option.some.inj H
       have p188 : 0 ≤ (x8_1 : Int) := oT (by assumption)
       have q188 : x8_1 < (l0.length : Int) := oT (by assumption)
       obtain ⟨ad188, e188, hx188_0⟩ := Kd.at_string HR0.out x8_1 p188 q188
       cases e188
       replace hx188_0 := (HB.out.cell (World.block_lt_of_cell? w _ hx188_0)).trans hx188_0
       replace p188 := eq_true p188
       replace q188 := eq_true q188
       go_wp2_with (first | ((with_reducible refine gate_dst (N := 16) rfl ?_); refine slices_IndexFunc_string_string.goesV_ (f := g) (lb := lb) (some 16) rfl rfl #[.string (rdOf ByteArray.empty l0 x8_1)] rfl rfl (by simp only [mA, mB, mC]; all_goals rfl) EG_.out ?_; (with_reducible refine (HP_.out k1 (rdOf ByteArray.empty l0 x8_1) true _ HB.out A6.out).mono ?_); rintro e w8 ⟨rfl, hb⟩; refine ⟨_, rfl, ?_⟩; replace HB := aM (below_step HB.out hb); (try clear hb)))
       go_ret
       exact ⟨rfl, HB.out⟩
      ·replace c7 := Bool.eq_false_iff.mpr c7
       subst c7
       have H1 : (slices_IndexFunc_string_string.l0 rule k1 l0 (l0.length : Int) (wrap64 (x8_1 + 1))) = some r := by rw [if_neg (show ¬ (false = true) by decide)] at H; exact H
       clear H; have H := H1; clear H1
       have H' := aM H
       clear H
       have p188 : 0 ≤ (x8_1 : Int) := oT (by assumption)
       have q188 : x8_1 < (l0.length : Int) := oT (by assumption)
       obtain ⟨ad188, e188, hx188_0⟩ := Kd.at_string HR0.out x8_1 p188 q188
       cases e188
       replace hx188_0 := (HB.out.cell (World.block_lt_of_cell? w _ hx188_0)).trans hx188_0
       replace p188 := eq_true p188
       replace q188 := eq_true q188
       go_wp2_with (first | ((with_reducible refine gate_dst (N := 16) rfl ?_); refine slices_IndexFunc_string_string.goesV_ (f := g) (lb := lb) (some 16) rfl rfl #[.string (rdOf ByteArray.empty l0 x8_1)] rfl rfl (by simp only [mA, mB, mC]; all_goals rfl) EG_.out ?_; (with_reducible refine (HP_.out k1 (rdOf ByteArray.empty l0 x8_1) false _ HB.out A6.out).mono ?_); rintro e w9 ⟨rfl, hb⟩; refine ⟨_, rfl, ?_⟩; replace HB := aM (below_step HB.out hb); (try clear hb)))
       go_roundg k1
       case measure => have := HK1.out; omega
       case rel => exact ⟨(wrap64 (x8_1 + 1)), rfl, H', ⟨by have := HK1.out; omega⟩, HB⟩
     ·rw [if_neg c5] at H
      exact absurd H (by simp)
    ·rw [if_neg c4] at H
     exact absurd H (by simp)
   ·rw [if_neg c3] at H
    have c3b0 : decide (x8_1 < (l0.length : Int)) = false := decide_eq_false c3
    clear c3
    obtain rfl := Option.some.inj H
    go_wp2
    go_ret
    exact ⟨rfl, HB.out⟩




/-! ### slices_DeleteFunc_string_string: function 53 (told by hand) -/
/-- slices.DeleteFunc over the texts of an own row, by whatever rule: what is left. -/
def slices_DeleteFunc_string_string.l0 (rule : Nat → ByteArray → Option Bool) : Nat → List ByteArray → Int → Int → Option (List ByteArray)
 | 0, _, _, _ => none
 | k + 1, x, i, j => if j < (x.length : Int) then (if 0 ≤ j then ((rule k (rdOf ByteArray.empty x j)).bind fun b => if b = true then slices_DeleteFunc_string_string.l0 rule k x i (wrap64 (j + 1)) else (if 0 ≤ i ∧ i < (x.length : Int) then slices_DeleteFunc_string_string.l0 rule k (x.set i.toNat (rdOf ByteArray.empty x j)) (wrap64 (i + 1)) (wrap64 (j + 1)) else none)) else none) else (if 0 ≤ i ∧ i < (x.length : Int) then some (x.take i.toNat) else none)
def slices_DeleteFunc_string_string.f (rule : Nat → ByteArray → Option Bool) (k : Nat) (l : List ByteArray) : Option (List ByteArray) := (slices_IndexFunc_string_string.f rule k l).bind fun i => if i = -1 then some l else (if 0 < l.length then slices_DeleteFunc_string_string.l0 rule k l i (wrap64 (i + 1)) else none)
theorem slices_DeleteFunc_string_string.mono_l {rule : Nat → ByteArray → Option Bool} (hr : ∀ x0 n, LeO (rule n x0) (rule (n + 1) x0)) : ∀ k x i j, LeO (slices_DeleteFunc_string_string.l0 rule k x i j) (slices_DeleteFunc_string_string.l0 rule (k + 1) x i j)
 | 0, _, _, _ => fun r h => by simp [slices_DeleteFunc_string_string.l0] at h
 | k + 1, x, i, j => by
  unfold slices_DeleteFunc_string_string.l0
  exact LeO.ite (LeO.ite (LeO.bind (hr _ _) (fun _ => LeO.ite (slices_DeleteFunc_string_string.mono_l hr k _ _ _) (LeO.ite (slices_DeleteFunc_string_string.mono_l hr k _ _ _) (LeO.none _)))) (LeO.none _)) (LeO.refl _)
theorem slices_DeleteFunc_string_string.mono {rule : Nat → ByteArray → Option Bool} (hr : ∀ x0 n, LeO (rule n x0) (rule (n + 1) x0)) : ∀ a0 k, LeO (slices_DeleteFunc_string_string.f rule k a0) (slices_DeleteFunc_string_string.f rule (k + 1) a0) := fun a0 k =>
 LeO.bind (slices_IndexFunc_string_string.mono hr a0 k) (fun _ => LeO.ite (LeO.refl _) (LeO.ite (slices_DeleteFunc_string_string.mono_l hr k _ _ _) (LeO.none _)))
theorem slices_DeleteFunc_string_string.keeps {I : World → Prop} {g : Nat} (hs : ∀ W j v, I W → I (W.setCell ⟨g, j, none⟩ v)) : ∀ (vs : List Value) (o : Nat) (W : World), I W → I (W.setCells g o vs)
 | [], _, _, h => h
 | v :: vs, o, W, h => slices_DeleteFunc_string_string.keeps hs vs (o + 1) _ (hs W o v h)
theorem slices_DeleteFunc_string_string.cleared {g n c base : Nat} {ok : Nat → Prop} : ∀ (m o : Nat) (W : World) (xs : List ByteArray), Kd.R Kd.string 9 W base ok (.slice (some ⟨g, 0, none⟩) n c) xs →
  ∃ ys, ys.length = xs.length ∧ ys.take o = xs.take o ∧ Kd.R Kd.string 9 (W.setCells g o (List.replicate m (.string ⟨#[]⟩))) base ok (.slice (some ⟨g, 0, none⟩) n c) ys
 | 0, o, W, xs, h => ⟨xs, rfl, rfl, h⟩
 | m + 1, o, W, xs, h => by
  have h1 := (Kd.R_putg h (o : Int) (⟨#[]⟩ : ByteArray)).1
  rw [Int.toNat_natCast] at h1
  obtain ⟨ys, e1, e2, e3⟩ := slices_DeleteFunc_string_string.cleared m (o + 1) _ _ h1
  refine ⟨ys, by rw [e1, List.length_set], ?_, e3⟩
  have e4 := congrArg (List.take o) e2
  rw [List.take_take, List.take_take, Nat.min_eq_left (Nat.le_succ o), List.take_set_of_le (Nat.le_refl o)] at e4
  exact e4
set_option maxHeartbeats 8000000 in
set_option maxRecDepth 100000 in
theorem slices_DeleteFunc_string_string.calls (gf : Nat) (lb : Array Value) (eg : Go.Proofs.Enters Try.prog gf) (rule : Nat → ByteArray → Option Bool) (k : Nat) (A : Option Addr) (c : Nat) (l r : List ByteArray) (base : Nat) (I : World → Prop) (w : World)
  (hv : Kd.R Kd.string 9 w base (fun _ => True) (.slice A l.length c) l) (hI0 : I w) (hIb : ∀ W W', I W → Below W.heap.size W W' → I W') (hIs : ∀ W g j v, (Value.slice A l.length c).ownBlock = some g → I W → I (W.setCell ⟨g, j, none⟩ v))
  (hp : ∀ (j : Nat) (x : ByteArray) (b : Bool) (W : World), I W → rule j x = some b → Calls Try.prog gf (#[.string x] ++ lb) W fun e w' => e = .returned (.bool b) ∧ Below W.heap.size W w')
  (h : slices_DeleteFunc_string_string.f rule k l = some r) :
  Calls Try.prog 53 #[.slice A l.length c, .func (.func gf) #[] lb] w fun e w' => ∃ v, e = .returned v ∧ Kd.R Kd.string 9 w' base (fun _ => True) v r ∧ I w' := by
 unfold slices_DeleteFunc_string_string.f at h
 obtain ⟨i, I_, h⟩ := Option.bind_eq_some_iff.mp h
 have HC := aM (slices_IndexFunc_string_string.calls gf lb eg rule k A c l i w (Kd.R_reads' hv).2.2 (Kd.R_reads' hv).2.1 (fun j x b W hb hj => hp j x b W (hIb _ _ hI0 hb) hj) I_)
 clear I_
 have HV := aM hv
 have HI := aM hI0
 have HIB := aM hIb
 have HIS := aM hIs
 have HP := aM hp
 have EG := aM eg
 clear hv hI0 hIb hIs hp eg
 by_cases c0 : i = -1
 ·rw [if_pos c0] at h
  obtain rfl := Option.some.inj h
  clear h
  subst c0
  go_enter Try.func53, Try.ntmps53
  go_wp2_with (first | (go_at_call 66; (with_reducible refine HC.out.mono ?_); rintro e w1 ⟨rfl, hb⟩; have HB1 := aM hb; clear hb))
  go_ret
  exact ⟨_, rfl, Kd.R_below HV.out HB1.out, HIB.out _ _ HI.out HB1.out⟩
 ·rw [if_neg c0] at h
  have c0b : (i == -1) = false := beq_eq_false_iff_ne.2 c0
  clear c0
  by_cases c1 : 0 < l.length
  ·rw [if_pos c1] at h
   obtain ⟨g, cap, ev, gb, _, _⟩ := Kd.R_form HV.out c1
   clear c1
   have hcc : A = some ⟨g, 0, none⟩ ∧ c = cap := by
    injection ev with e1 e2 e3
    exact ⟨e1, e3⟩
   obtain ⟨rfl, rfl⟩ := hcc
   clear ev
   have GB := aM gb
   clear gb
   have HS : Aside0 (∀ W j v, I W → I (W.setCell ⟨g, j, none⟩ v)) := ⟨fun W j v hW => HIS.out W g j v rfl hW⟩
   clear HIS
   have H' := aM h
   clear h
   go_enter Try.func53, Try.ntmps53
   go_wp2_with (first | (go_at_call 66; (with_reducible refine HC.out.mono ?_); rintro e w1 ⟨rfl, hb⟩; have HX := aM (Kd.R_below HV.out hb); have HW := aM (HIB.out _ _ HI.out hb); clear hb HV HI HC))
   have HL := aM (rfl : l.length = l.length)
   go_loopg [5, 6] k (fun kq v5 v6 w' => ∃ (x : List ByteArray) (i j : Int), v5 = .int .i64 i ∧ v6 = .int .i64 j ∧ Aside0 (slices_DeleteFunc_string_string.l0 rule kq x i j = some r) ∧ Aside0 (kq ≤ k) ∧ Aside0 (x.length = l.length) ∧ Aside0 (Kd.R Kd.string 9 w' base (fun _ => True) (.slice (some ⟨g, 0, none⟩) l.length c) x) ∧ Aside0 (I w'))
   case atStart => exact ⟨l, i, wrap64 (i + 1), rfl, rfl, H', ⟨Nat.le_refl _⟩, HL, HX, HW⟩
   case round =>
    clear H' HX HW HL c0b
    obtain ⟨x, i, j, rfl, rfl, HA, HK1, HL, HX, HW⟩ := hrel
    cases gk with
    | zero => exact absurd HA.out (by simp [slices_DeleteFunc_string_string.l0])
    | succ k1 =>
     have H := HA.out
     clear HA
     simp only [slices_DeleteFunc_string_string.l0] at H
     rw [HL.out] at H
     by_cases c5 : j < (l.length : Int)
     ·rw [if_pos c5] at H
      have c5b0 : decide (j < (l.length : Int)) = true := decide_eq_true c5
      by_cases c6 : 0 ≤ j
      ·rw [if_pos c6] at H
       have c6b0 : decide (0 ≤ j) = true := decide_eq_true c6
       obtain ⟨ad1, e1, hx1⟩ := Kd.at_string (Kd.R_reads' HX.out).2.2 j c6 (by rw [HL.out]; exact c5)
       have q1 := eq_true c5
       have q2 := eq_true c6
       clear c5 c6
       cases e1
       simp only [add_plain] at hx1
       generalize hs1 : rdOf ByteArray.empty x j = s1 at hx1 H
       clear hs1
       obtain ⟨b, A70, H⟩ := Option.bind_eq_some_iff.mp H
       have A7 := aM A70
       clear A70
       cases b with
       | true =>
        rw [if_pos rfl] at H
        have H' := aM H
        clear H
        go_wp2_with (first | ((with_reducible refine gate_dst (N := 28) rfl ?_); refine slices_IndexFunc_string_string.goesV_ (f := gf) (lb := lb) (some 28) rfl rfl #[.string s1] rfl rfl (by simp only [mA, mB, mC]; all_goals rfl) EG.out ?_; (with_reducible refine (HP.out k1 s1 true _ HW.out A7.out).mono ?_); rintro e w8 ⟨rfl, hb⟩; refine ⟨_, rfl, ?_⟩; have m0 := aM (Kd.R_below HX.out hb); have m1 := aM (HIB.out _ _ HW.out hb); clear HX HW hb; have HX := m0; have HW := m1; clear m0 m1))
        go_roundg k1
        case measure => have := HK1.out; omega
        case rel => exact ⟨x, i, wrap64 (j + 1), rfl, rfl, H', ⟨by have := HK1.out; omega⟩, HL, HX, HW⟩
       | false =>
        rw [if_neg Bool.false_ne_true] at H
        by_cases c8 : 0 ≤ i ∧ i < (l.length : Int)
        ·rw [if_pos c8] at H
         have H' := aM H
         clear H
         have G8 := aM c8
         have q3 := eq_true c8.1
         have q4 := eq_true c8.2
         have c8b0 : decide (0 ≤ i) = true := decide_eq_true c8.1
         have c8b1 : decide (i < (l.length : Int)) = true := decide_eq_true c8.2
         clear c8
         go_wp2_with (first | ((with_reducible refine gate_dst (N := 28) rfl ?_); refine slices_IndexFunc_string_string.goesV_ (f := gf) (lb := lb) (some 28) rfl rfl #[.string s1] rfl rfl (by simp only [mA, mB, mC]; all_goals rfl) EG.out ?_; (with_reducible refine (HP.out k1 s1 false _ HW.out A7.out).mono ?_); rintro e w8 ⟨rfl, hb⟩; refine ⟨_, rfl, ?_⟩; have m0 := aM (Kd.R_below HX.out hb); have m1 := aM (HIB.out _ _ HW.out hb); clear HX HW hb; have HX := m0; have HW := m1; clear m0 m1; have hcf := Kd.R_celln (ByteArray.empty) HX.out i G8.out.1 G8.out.2; have hx8 := hcf.1; have hf8 := hcf.2; clear hcf hx1) | ((with_reducible refine gate_store (t := 9) (p := 33) rfl ?_); refine store_event (t := 9) (p := 33) (v := ?vo) (w1 := (w8.setCell ⟨g, i.toNat, none⟩ (.string s1))) ?hg ?ho ?hn ?hr ?_; (case ho => rfl); (case hg => rfl); (case hn => rfl); (case hr => go_simp); intro w9 hw; have m0 := aM (show Kd.R Kd.string 9 w9 base (fun _ => True) (.slice (some ⟨g, 0, none⟩) l.length c) (x.set i.toNat s1) from by rw [hw]; exact (Kd.R_putg HX.out i s1).1); have m1 := aM (show I w9 from by rw [hw]; exact HS.out _ _ _ HW.out); clear HX HW hw; have HX := m0; have HW := m1; clear m0 m1))
         go_roundg k1
         case measure => have := HK1.out; omega
         case rel => exact ⟨x.set i.toNat s1, wrap64 (i + 1), wrap64 (j + 1), rfl, rfl, H', ⟨by have := HK1.out; omega⟩, ⟨by rw [List.length_set]; exact HL.out⟩, HX, HW⟩
        ·rw [if_neg c8] at H
         cases H
      ·rw [if_neg c6] at H
       cases H
     ·rw [if_neg c5] at H
      have c5b0 : decide (j < (l.length : Int)) = false := decide_eq_false c5
      clear c5
      by_cases c8 : 0 ≤ i ∧ i < (l.length : Int)
      ·rw [if_pos c8] at H
       obtain rfl := Option.some.inj H
       clear H
       obtain ⟨n, rfl⟩ := Int.eq_ofNat_of_zero_le c8.1
       have hn : n < l.length := Int.ofNat_lt.1 c8.2
       have hcap := (Kd.R_reads' HX.out).2.1
       clear c8
       have hcl : ∀ ty, (Builtin.clear_ #[47] ty #[.slice (some ⟨g, n, none⟩) (l.length - n) (c - n)]).run Try.prog wr = .ok (.tuple #[]) (wr.setCells g n (List.replicate (l.length - n) (.string ⟨#[]⟩))) :=
        fun ty => Lib.run_clear_slice wr 47 9 ty (.string ⟨#[]⟩) Try.underlying47 (fun _ => by kernel_rfl) rfl rfl g n _ _ (by omega) (fun j hj => by
          have h1 := (Kd.R_celln (ByteArray.empty) HX.out ((n + j : Nat) : Int) (Int.natCast_nonneg _) (by omega)).1
          rw [Int.toNat_natCast] at h1
          rw [h1]
          rfl) (fun j hj => by
          have h1 := (Kd.R_celln (ByteArray.empty) HX.out ((n + j : Nat) : Int) (Int.natCast_nonneg _) (by omega)).2
          rw [Int.toNat_natCast] at h1
          exact h1)
       have HN := aM hn
       have HCAP := aM hcap
       go_wp2
       go_ret
       obtain ⟨ys, e1, e2, e3⟩ := slices_DeleteFunc_string_string.cleared (l.length - n) n wr x HX.out
       have hlx := HL.out
       have e4 := Kd.R_take e3 (m := n) (by rw [e1, hlx]; omega)
       rw [e2] at e4
       rw [Int.toNat_natCast]
       exact ⟨_, rfl, e4, slices_DeleteFunc_string_string.keeps HS.out _ _ _ HW.out⟩
      ·rw [if_neg c8] at H
       cases H
  ·rw [if_neg c1] at h
   cases h

/-! ### impl_Bolts_states_1: function 54 (told by hand) -/
/-- The function value of impl.Bolts.states: whether a text is not allowed. -/
def impl_Bolts_states_1.rule (l0 : List Int) (l1 : List S77) (k : Nat) (s : ByteArray) : Option Bool := (impl_Bolts_allowed.f k l0 l1 s).bind fun a => some (!a)
theorem impl_Bolts_states_1.rule_mono (l0 : List Int) (l1 : List S77) : ∀ s n, LeO (impl_Bolts_states_1.rule l0 l1 n s) (impl_Bolts_states_1.rule l0 l1 (n + 1) s) := fun s n =>
 LeO.bind (impl_Bolts_allowed.mono _ _ _ _) (fun _ => LeO.refl _)
set_option maxHeartbeats 8000000 in
set_option maxRecDepth 100000 in
theorem impl_Bolts_states_1.calls (B : Nat) (A0 : Option Addr) (c0 : Nat) (l0 : List Int) (A1 : Option Addr) (c1 : Nat) (l1 : List S77) (k : Nat) (s : ByteArray) (b : Bool) (w : World) (hbk : w.heap[B]? = some (.cells #[.slice A0 l0.length c0, .slice A1 l1.length c1] 31 (0, 0)))
  (hr0 : Kd.C (Kd.int .i64) w A0 l0.length l0) (hc0 : l0.length ≤ c0) (hr1 : Kd.C k77 w A1 l1.length l1) (hc1 : l1.length ≤ c1) (h : impl_Bolts_states_1.rule l0 l1 k s = some b) :
  Calls Try.prog 54 (#[.string s] ++ #[.pointer (some ⟨B, 0, none⟩)]) w fun e w' => e = .returned (.bool b) ∧ Below w.heap.size w w' := by
 show Calls Try.prog 54 #[.string s, .pointer (some ⟨B, 0, none⟩)] w _
 have hu1 := Try.underlying31
 unfold impl_Bolts_states_1.rule at h
 obtain ⟨a, A1_, h⟩ := Option.bind_eq_some_iff.mp h
 obtain rfl := Option.some.inj h
 clear h
 have HR0 := aM hr0
 have HR1 := aM hr1
 have HA := aM A1_
 have hz0 : w.cell? ⟨B, 0, none⟩ = some (.slice A0 l0.length c0) := (blk_cell hbk 0).trans rfl
 have hz1 : w.cell? ⟨B, 1, none⟩ = some (.slice A1 l1.length c1) := (blk_cell hbk 1).trans rfl
 clear hr0 hr1 A1_ hbk
 go_enter Try.func54, Try.ntmps54
 go_wp2_with (first | (go_at_call 55; (with_reducible refine (impl_Bolts_allowed.calls k A0 c0 l0 A1 c1 l1 s a w HR0.out hc0 HR1.out hc1 HA.out).mono ?_); rintro e w7 ⟨rfl, hb⟩; have HB7 := aM hb; clear hb))
 go_ret
 exact ⟨rfl, HB7.out⟩

/-! ### impl_Bolts_states: function 27 -/
mutual
def impl_Bolts_states.l0 (l0_0 : List Int) (l0_1 : List (S77)) : Nat → List ByteArray → List Int → Int → Int → Option (List ByteArray)
 | 0, _, _, _, _ => none
 | k + 1, x3, x12, x13, x14 => if x14 < x13 then (if 0 ≤ x14 then (if x14 < (x12.length : Int) then (impl_Bolts_states.l1 l0_0 l0_1 k (rd x12 x14) ([] : List ByteArray) x12 x13 x14 x3 (x3.length : Int) 0) else (none)) else (none)) else ((slices_DeleteFunc_string_string.f (impl_Bolts_states_1.rule l0_0 l0_1) k x3).bind fun t249 => (some t249))
def impl_Bolts_states.l1 (l0_0 : List Int) (l0_1 : List (S77)) : Nat → Int → List ByteArray → List Int → Int → Int → List ByteArray → Int → Int → Option (List ByteArray)
 | 0, _, _, _, _, _, _, _, _ => none
 | k + 1, x5, x6, x12, x13, x14, x18, x19, x20 => if x20 < x19 then (if 0 ≤ x20 then (if x20 < (x18.length : Int) then (impl_Bolts_states.l2 l0_0 l0_1 k x5 x6 (rdOf ByteArray.empty x18 x20) x12 x13 x14 x18 x19 x20 x5 0) else (none)) else (none)) else (impl_Bolts_states.l0 l0_0 l0_1 k x6 x12 x13 (wrap64 (x14 + 1)))
def impl_Bolts_states.l2 (l0_0 : List Int) (l0_1 : List (S77)) : Nat → Int → List ByteArray → ByteArray → List Int → Int → Int → List ByteArray → Int → Int → Int → Int → Option (List ByteArray)
 | 0, _, _, _, _, _, _, _, _, _, _, _ => none
 | k + 1, x5, x6, x8, x12, x13, x14, x18, x19, x20, x24, x25 => if x25 < x24 then ((some (([(48 + ((x25) % 256)) % 256] : List Int) : List Int)).bind fun y254 => (if x8.size + (strOfNums y254).size ≤ 9223372036854775807 then (if x6.length < 8796093022208 then (impl_Bolts_states.l2 l0_0 l0_1 k x5 (x6 ++ [x8 ++ (strOfNums y254)]) x8 x12 x13 x14 x18 x19 x20 x24 (wrap64 (x25 + 1))) else (none)) else (none))) else (impl_Bolts_states.l1 l0_0 l0_1 k x5 x6 x12 x13 x14 x18 x19 (wrap64 (x20 + 1)))
end
def impl_Bolts_states.f (k : Nat) (l0_0 : List Int) (l0_1 : List (S77)) : Option (List ByteArray) := impl_Bolts_states.l0 l0_0 l0_1 k (([(⟨#[]⟩ : ByteArray)] : List ByteArray)) l0_0 (l0_0.length : Int) 0
theorem impl_Bolts_states.mono_l (l0_0 : List Int) (l0_1 : List (S77)) : ∀ k, (∀ y0 y1 y2 y3, LeO (impl_Bolts_states.l0 l0_0 l0_1 k y0 y1 y2 y3) (impl_Bolts_states.l0 l0_0 l0_1 (k + 1) y0 y1 y2 y3)) ∧ (∀ y0 y1 y2 y3 y4 y5 y6 y7, LeO (impl_Bolts_states.l1 l0_0 l0_1 k y0 y1 y2 y3 y4 y5 y6 y7) (impl_Bolts_states.l1 l0_0 l0_1 (k + 1) y0 y1 y2 y3 y4 y5 y6 y7)) ∧ (∀ y0 y1 y2 y3 y4 y5 y6 y7 y8 y9 y10, LeO (impl_Bolts_states.l2 l0_0 l0_1 k y0 y1 y2 y3 y4 y5 y6 y7 y8 y9 y10) (impl_Bolts_states.l2 l0_0 l0_1 (k + 1) y0 y1 y2 y3 y4 y5 y6 y7 y8 y9 y10))
 | 0 => ⟨fun _ _ _ _ r h => by simp [impl_Bolts_states.l0] at h, fun _ _ _ _ _ _ _ _ r h => by simp [impl_Bolts_states.l1] at h, fun _ _ _ _ _ _ _ _ _ _ _ r h => by simp [impl_Bolts_states.l2] at h⟩
 | k + 1 => by
  obtain ⟨ih0, ih1, ih2⟩ := impl_Bolts_states.mono_l _ _ k
  refine ⟨?_, ?_, ?_⟩
  ·intro y0 y1 y2 y3
   unfold impl_Bolts_states.l0
   repeat' first
   | (with_reducible exact ih0 _ _ _ _)
   | (with_reducible exact ih1 _ _ _ _ _ _ _ _)
   | (with_reducible exact ih2 _ _ _ _ _ _ _ _ _ _ _)
   | (with_reducible exact slices_DeleteFunc_string_string.mono (impl_Bolts_states_1.rule_mono _ _) _ _)
   | (with_reducible exact LeO.refl _)
   | (with_reducible exact LeO.none _)
   | (with_reducible refine LeO.ite ?_ ?_)
   | (with_reducible refine LeO.bind ?_ (fun _ => ?_))
   | exact ih0 _ _ _ _
   | exact ih1 _ _ _ _ _ _ _ _
   | exact ih2 _ _ _ _ _ _ _ _ _ _ _
   | exact slices_DeleteFunc_string_string.mono (impl_Bolts_states_1.rule_mono _ _) _ _
   | exact LeO.none _
   | refine LeO.ite ?_ ?_
   | refine LeO.bind ?_ (fun _ => ?_)
  ·intro y0 y1 y2 y3 y4 y5 y6 y7
   unfold impl_Bolts_states.l1
   repeat' first
   | (with_reducible exact ih0 _ _ _ _)
   | (with_reducible exact ih1 _ _ _ _ _ _ _ _)
   | (with_reducible exact ih2 _ _ _ _ _ _ _ _ _ _ _)
   | (with_reducible exact slices_DeleteFunc_string_string.mono (impl_Bolts_states_1.rule_mono _ _) _ _)
   | (with_reducible exact LeO.refl _)
   | (with_reducible exact LeO.none _)
   | (with_reducible refine LeO.ite ?_ ?_)
   | (with_reducible refine LeO.bind ?_ (fun _ => ?_))
   | exact ih0 _ _ _ _
   | exact ih1 _ _ _ _ _ _ _ _
   | exact ih2 _ _ _ _ _ _ _ _ _ _ _
   | exact slices_DeleteFunc_string_string.mono (impl_Bolts_states_1.rule_mono _ _) _ _
   | exact LeO.none _
   | refine LeO.ite ?_ ?_
   | refine LeO.bind ?_ (fun _ => ?_)
  ·intro y0 y1 y2 y3 y4 y5 y6 y7 y8 y9 y10
   unfold impl_Bolts_states.l2
   repeat' first
   | (with_reducible exact ih0 _ _ _ _)
   | (with_reducible exact ih1 _ _ _ _ _ _ _ _)
   | (with_reducible exact ih2 _ _ _ _ _ _ _ _ _ _ _)
   | (with_reducible exact slices_DeleteFunc_string_string.mono (impl_Bolts_states_1.rule_mono _ _) _ _)
   | (with_reducible exact LeO.refl _)
   | (with_reducible exact LeO.none _)
   | (with_reducible refine LeO.ite ?_ ?_)
   | (with_reducible refine LeO.bind ?_ (fun _ => ?_))
   | exact ih0 _ _ _ _
   | exact ih1 _ _ _ _ _ _ _ _
   | exact ih2 _ _ _ _ _ _ _ _ _ _ _
   | exact slices_DeleteFunc_string_string.mono (impl_Bolts_states_1.rule_mono _ _) _ _
   | exact LeO.none _
   | refine LeO.ite ?_ ?_
   | refine LeO.bind ?_ (fun _ => ?_)
theorem impl_Bolts_states.mono : ∀ a0 a1 k, LeO (impl_Bolts_states.f k a0 a1) (impl_Bolts_states.f (k + 1) a0 a1) := by
 intro a0 a1 k
 obtain ⟨ih0, ih1, ih2⟩ := impl_Bolts_states.mono_l _ _ k
 unfold impl_Bolts_states.f
 repeat' first
   | (with_reducible exact ih0 _ _ _ _)
   | (with_reducible exact ih1 _ _ _ _ _ _ _ _)
   | (with_reducible exact ih2 _ _ _ _ _ _ _ _ _ _ _)
   | (with_reducible exact slices_DeleteFunc_string_string.mono (impl_Bolts_states_1.rule_mono _ _) _ _)
   | (with_reducible exact LeO.refl _)
   | (with_reducible exact LeO.none _)
   | (with_reducible refine LeO.ite ?_ ?_)
   | (with_reducible refine LeO.bind ?_ (fun _ => ?_))
   | exact ih0 _ _ _ _
   | exact ih1 _ _ _ _ _ _ _ _
   | exact ih2 _ _ _ _ _ _ _ _ _ _ _
   | exact slices_DeleteFunc_string_string.mono (impl_Bolts_states_1.rule_mono _ _) _ _
   | exact LeO.none _
   | refine LeO.ite ?_ ?_
   | refine LeO.bind ?_ (fun _ => ?_)
set_option maxHeartbeats 8000000 in
set_option maxRecDepth 100000 in
theorem impl_Bolts_states.calls (k : Nat) (A0_0 : Option Addr) (c0_0 : Nat) (l0_0 : List Int) (A0_1 : Option Addr) (c0_1 : Nat) (l0_1 : List (S77)) (r : List ByteArray) (w : World) (hr0_0 : Kd.C (Kd.int .i64) w A0_0 l0_0.length l0_0) (hc0_0 : l0_0.length ≤ c0_0) (hr0_1 : Kd.C k77 w A0_1 l0_1.length l0_1) (hc0_1 : l0_1.length ≤ c0_1) (h : impl_Bolts_states.f k l0_0 l0_1 = some r) :
  Calls Try.prog 27 #[.agg #[.slice A0_0 l0_0.length c0_0, .slice A0_1 l0_1.length c0_1]] w fun e w' => ∃ v0_ : Value, e = .returned (v0_) ∧ Kd.R Kd.string 9 w' w.heap.size (fun _ => True) v0_ r ∧ Below w.heap.size w w' := by
 have hu31 := Try.underlying31
 have hmf : ∀ (fn : Fn) (first cap : Array Value) (w : World), (Instr.makeFunc fn first cap).run Try.prog w = .ok (.func fn first cap) w := fun _ _ _ _ => rfl
 have HR0_0 := aM hr0_0
 have HC0_0 := aM hc0_0
 clear hr0_0 hc0_0
 have HR0_1 := aM hr0_1
 have HC0_1 := aM hc0_1
 clear hr0_1 hc0_1
 have HB := aM (Below.refl w.heap.size w)
 have H : (impl_Bolts_states.l0 l0_0 l0_1 k (([(⟨#[]⟩ : ByteArray)] : List ByteArray)) l0_0 (l0_0.length : Int) 0) = some r := h
 clear h
 obtain ⟨y246, hy246⟩ : ∃ y_ : List ByteArray, y_ = (([(⟨#[]⟩ : ByteArray)] : List ByteArray)) := ⟨_, rfl⟩
 replace H : (impl_Bolts_states.l0 l0_0 l0_1 k y246 l0_0 (l0_0.length : Int) 0) = some r := by first | (rw [hy246]; with_reducible exact H) | (have H2_ := (Option.bind_some _ _).symm.trans H; rw [hy246]; with_reducible exact H2_) | (have H2_ := (Option.bind_some _ _).symm.trans H; with_reducible exact H2_) | with_reducible exact H | (rw [hy246]; exact H) | exact H
 have Ny246 := aM hy246
 clear hy246
 have H' := aM H
 clear H
 go_enter Try.func27, Try.ntmps27
 go_wp2_with (first | ((with_reducible refine gate_dst (N := 1) rfl ?_); refine box_event ?hg (N := 1) ?hd (cs := #[.slice A0_0 l0_0.length c0_0, .slice A0_1 l0_1.length c0_1]) (t := 31) ?hr ?_; (case hd => rfl); (case hg => rfl); (case hr => go_simp); intro gb245 hg w2 hbox hb; have BK245 := aM (hbox); have GW245 := aM ((by rw [hg]; exact (below_size HB.out) : w.heap.size ≤ gb245)); replace HB := aM (below_step HB.out hb); have GE245 := GW245; clear hb hbox hg) | ((with_reducible refine gate_dst (N := 10) rfl ?_); refine Kd.R_lit Kd.string _ 9 ?hg (N := 10) ?hd (xs := ([(⟨#[]⟩ : ByteArray)] : List ByteArray)) (inner := [.string (⟨#[]⟩ : ByteArray)]) (ok := fun _ => True) (okp := fun _ => True) ?hr ?hp (fun _ hk => hk) trivial (Below.refl _ _) (Nat.le_refl _) (by simp) ?_; (case hd => rfl); (case hg => rfl); (case hr => go_simp); (case hp => exact (Reps.one (show Kd.M Kd.string _ _ _ (⟨#[]⟩ : ByteArray) [.string (⟨#[]⟩ : ByteArray)] from rfl) (Reps.none _ _))); intro v247 w3 ho4 hb hg_ hnew_; clear hg_ hnew_; rw [← Ny246.out] at ho4; have HO248 := aM (Kd.R_lower ho4 (below_size HB.out)); replace BK245 := aM (blk_below (g := gb245) (o := .cells #[.slice A0_0 l0_0.length c0_0, .slice A0_1 l0_1.length c0_1] 31 (0, 0)) BK245.out hb); replace HB := aM (below_step HB.out hb); clear hb ho4; have hcz5_0 : w3.cell? ⟨gb245, 0, none⟩ = some (.slice A0_0 l0_0.length c0_0) := (blk_cell BK245.out 0).trans rfl; have hcz5_1 : w3.cell? ⟨gb245, 1, none⟩ = some (.slice A0_1 l0_1.length c0_1) := (blk_cell BK245.out 1).trans rfl; have hfz5_0 := blk_frozen BK245.out 0; have hfz5_1 := blk_frozen BK245.out 1))
 go_loopg [3, 14] k (fun kq v3 v14 w' => ∃ (x3_1 : List ByteArray) (x14_1 : Int), v14 = .int .i64 x14_1 ∧ Aside0 (impl_Bolts_states.l0 l0_0 l0_1 kq x3_1 l0_0 (l0_0.length : Int) x14_1 = some r) ∧ Aside0 (kq ≤ k) ∧ Aside0 (Kd.R Kd.string 9 w' w.heap.size (fun _ => True) v3 x3_1) ∧ Aside0 (w'.heap[gb245]? = some (.cells #[(.slice A0_0 l0_0.length c0_0), (.slice A0_1 l0_1.length c0_1)] 31 (0, 0))) ∧ Aside0 (Below w.heap.size w w'))
 case atStart => exact ⟨(y246), (0), rfl, H', ⟨Nat.le_refl _⟩, HO248, BK245, HB⟩
 case round =>
  clear H'
  try clear c2
  try clear p2
  try clear hcz5_0
  try clear hcz5_1
  try clear hfz5_0
  try clear hfz5_1
  obtain ⟨x3_1, x14_1, rfl, HA, HK1, HO_3, BK245, HB⟩ := hrel
  cases gk with
  | zero => exact absurd HA.out (by simp [impl_Bolts_states.l0])
  | succ k1 =>
   have H := HA.out
   clear HA
   simp only [impl_Bolts_states.l0] at H
   by_cases c6 : x14_1 < (l0_0.length : Int)
   ·rw [if_pos c6] at H
    have c6b0 : decide (x14_1 < (l0_0.length : Int)) = true := decide_eq_true c6
    clear c6
    by_cases c7 : 0 ≤ x14_1
    ·rw [if_pos c7] at H
     have c7b0 : decide (0 ≤ x14_1) = true := decide_eq_true c7
     clear c7
     by_cases c8 : x14_1 < (l0_0.length : Int)
     ·rw [if_pos c8] at H
      have c8b0 : decide (x14_1 < (l0_0.length : Int)) = true := decide_eq_true c8
      clear c8
      have H' := aM H
      clear H
      have p252 : 0 ≤ (x14_1 : Int) := oT (by assumption)
      have q252 : x14_1 < (l0_0.length : Int) := oT (by assumption)
      obtain ⟨ad252, e252, hx252_0⟩ := Kd.at_int HR0_0.out x14_1 p252 q252
      cases e252
      replace hx252_0 := (HB.out.cell (World.block_lt_of_cell? w _ hx252_0)).trans hx252_0
      replace p252 := eq_true p252
      replace q252 := eq_true q252
      obtain ⟨Ao9, co9, eo9⟩ := Kd.R_slice HO_3.out
      subst eo9
      go_wp2
      go_loopg [6, 20] k1 (fun kq v6 v20 w' => ∃ (x6_2 : List ByteArray) (x20_2 : Int), v20 = .int .i64 x20_2 ∧ Aside0 (impl_Bolts_states.l1 l0_0 l0_1 kq (rd l0_0 x14_1) x6_2 l0_0 (l0_0.length : Int) x14_1 x3_1 (x3_1.length : Int) x20_2 = some r) ∧ Aside0 (kq ≤ k1) ∧ Aside0 (Kd.R Kd.string 9 w' w.heap.size (fun k_ => some k_ ≠ ((.slice Ao9 x3_1.length co9) : Value).ownBlock) v6 x6_2) ∧ Aside0 (Kd.R Kd.string 9 w' w.heap.size (fun k_ => some k_ ≠ (v6 : Value).ownBlock) (.slice Ao9 x3_1.length co9) x3_1) ∧ Aside0 (w'.heap[gb245]? = some (.cells #[(.slice (some ad252) l0_0.length c0_0), (.slice A0_1 l0_1.length c0_1)] 31 (0, 0))) ∧ Aside0 (Below w.heap.size w w'))
      case atStart => exact ⟨(([] : List ByteArray)), (0), rfl, H', ⟨Nat.le_refl _⟩, ⟨by first | exact Kd.R_nil _ _ _ _ _ | exact Kd.N_nil _ _ _ _ _ | exact Kd.V_nil _ _ _ _ _ | exact Kd.Q_nil _ _ _ _ _ | exact Kd.S_nil _ _ _ _ _⟩, ⟨by (with_reducible repeat (first | apply rA | apply rN | apply rD)); exact Kd.R_mono HO_3.out (fun _ hk => (by simp [Value.ownBlock]))⟩, BK245, HB⟩
      case round =>
       clear H'
       try clear c2
       try clear p2
       try clear q2
       try clear hx2
       try clear c6
       try clear c6b0
       try clear c7
       try clear c7b0
       try clear c8
       try clear c8b0
       try clear hcz5_0
       try clear hcz5_1
       try clear hfz5_0
       try clear hfz5_1
       try clear hx252_0
       try clear p2
       try clear p252
       try clear q252
       obtain ⟨x6_2, x20_2, rfl, HA, HK2, HO_6, HO_18, BK245, HB⟩ := hrel
       cases gk with
       | zero => exact absurd HA.out (by simp [impl_Bolts_states.l1])
       | succ k2 =>
        have H := HA.out
        clear HA
        simp only [impl_Bolts_states.l1] at H
        by_cases c10 : x20_2 < (x3_1.length : Int)
        ·rw [if_pos c10] at H
         have c10b0 : decide (x20_2 < (x3_1.length : Int)) = true := decide_eq_true c10
         clear c10
         by_cases c11 : 0 ≤ x20_2
         ·rw [if_pos c11] at H
          have c11b0 : decide (0 ≤ x20_2) = true := decide_eq_true c11
          clear c11
          by_cases c12 : x20_2 < (x3_1.length : Int)
          ·rw [if_pos c12] at H
           have c12b0 : decide (x20_2 < (x3_1.length : Int)) = true := decide_eq_true c12
           clear c12
           have H' := aM H
           clear H
           have p253 : 0 ≤ (x20_2 : Int) := oT (by assumption)
           have q253 : x20_2 < (x3_1.length : Int) := oT (by assumption)
           obtain ⟨ad253, e253, hx253_0⟩ := Kd.at_string (Kd.R_reads' HO_18.out).2.2 x20_2 p253 q253
           cases e253
           replace p253 := eq_true p253
           replace q253 := eq_true q253
           go_wp2
           go_loopg [6, 25] k2 (fun kq v6 v25 w' => ∃ (x6_3 : List ByteArray) (x25_3 : Int), v25 = .int .i64 x25_3 ∧ Aside0 (impl_Bolts_states.l2 l0_0 l0_1 kq (rd l0_0 x14_1) x6_3 (rdOf ByteArray.empty x3_1 x20_2) l0_0 (l0_0.length : Int) x14_1 x3_1 (x3_1.length : Int) x20_2 (rd l0_0 x14_1) x25_3 = some r) ∧ Aside0 (kq ≤ k2) ∧ Aside0 (Kd.R Kd.string 9 w' w.heap.size (fun k_ => some k_ ≠ ((.slice (some ad253) x3_1.length co9) : Value).ownBlock) v6 x6_3) ∧ Aside0 (Kd.R Kd.string 9 w' w.heap.size (fun k_ => some k_ ≠ (v6 : Value).ownBlock) (.slice (some ad253) x3_1.length co9) x3_1) ∧ Aside0 (w'.heap[gb245]? = some (.cells #[(.slice (some ad252) l0_0.length c0_0), (.slice A0_1 l0_1.length c0_1)] 31 (0, 0))) ∧ Aside0 (Below w.heap.size w w'))
           case atStart => exact ⟨(x6_2), (0), rfl, H', ⟨Nat.le_refl _⟩, HO_6, HO_18, BK245, HB⟩
           case round =>
            clear H'
            try clear c1
            try clear c2
            try clear p2
            try clear q2
            try clear hx2
            try clear c6
            try clear c6b0
            try clear c7
            try clear c7b0
            try clear c8
            try clear c8b0
            try clear c10
            try clear c10b0
            try clear c11
            try clear c11b0
            try clear c12
            try clear c12b0
            try clear hcz5_0
            try clear hcz5_1
            try clear hfz5_0
            try clear hfz5_1
            try clear hx252_0
            try clear hx253_0
            try clear p2
            try clear p252
            try clear p253
            try clear q2
            try clear q252
            try clear q253
            obtain ⟨x6_3, x25_3, rfl, HA, HK3, HO_6, HO_18, BK245, HB⟩ := hrel
            cases gk with
            | zero => exact absurd HA.out (by simp [impl_Bolts_states.l2])
            | succ k3 =>
             have H := HA.out
             clear HA
             simp only [impl_Bolts_states.l2] at H
             by_cases c13 : x25_3 < (rd l0_0 x14_1)
             ·rw [if_pos c13] at H
              have c13b0 : decide (x25_3 < (rd l0_0 x14_1)) = true := decide_eq_true c13
              clear c13
              obtain ⟨y254, hy254⟩ : ∃ y_ : List Int, y_ = (([(48 + ((x25_3) % 256)) % 256] : List Int)) := ⟨_, rfl⟩
              replace H : (if (rdOf ByteArray.empty x3_1 x20_2).size + (strOfNums y254).size ≤ 9223372036854775807 then (if x6_3.length < 8796093022208 then (impl_Bolts_states.l2 l0_0 l0_1 k3 (rd l0_0 x14_1) (x6_3 ++ [(rdOf ByteArray.empty x3_1 x20_2) ++ (strOfNums y254)]) (rdOf ByteArray.empty x3_1 x20_2) l0_0 (l0_0.length : Int) x14_1 x3_1 (x3_1.length : Int) x20_2 (rd l0_0 x14_1) (wrap64 (x25_3 + 1))) else (none)) else (none)) = some r := by first | (rw [hy254]; with_reducible exact H) | (have H2_ := (Option.bind_some _ _).symm.trans H; rw [hy254]; with_reducible exact H2_) | (have H2_ := (Option.bind_some _ _).symm.trans H; with_reducible exact H2_) | with_reducible exact H | (rw [hy254]; exact H) | exact H
              have Ny254 := aM hy254
              clear hy254
              by_cases c14 : (rdOf ByteArray.empty x3_1 x20_2).size + (strOfNums y254).size ≤ 9223372036854775807
              ·rw [if_pos c14] at H
               have c14b0 := eq_true c14
               have c14b1 : decide ((rdOf ByteArray.empty x3_1 x20_2).size + (strOfNums y254).size ≤ 9223372036854775807) = true := decide_eq_true c14
               try (have c14s := c14; simp at c14s)
               try have c14b2 : (9223372036854775807 < (rdOf ByteArray.empty x3_1 x20_2).size + (strOfNums y254).size) = False := eq_false (Nat.not_lt.2 c14)
               by_cases c15 : x6_3.length < 8796093022208
               ·rw [if_pos c15] at H
                have LMc15 := aM c15
                clear c15
                obtain ⟨y257, hy257⟩ : ∃ y_ : List ByteArray, y_ = (x6_3 ++ [(rdOf ByteArray.empty x3_1 x20_2) ++ (strOfNums y254)]) := ⟨_, rfl⟩
                replace H : (impl_Bolts_states.l2 l0_0 l0_1 k3 (rd l0_0 x14_1) y257 (rdOf ByteArray.empty x3_1 x20_2) l0_0 (l0_0.length : Int) x14_1 x3_1 (x3_1.length : Int) x20_2 (rd l0_0 x14_1) (wrap64 (x25_3 + 1))) = some r := by first | (rw [hy257]; with_reducible exact H) | (have H2_ := (Option.bind_some _ _).symm.trans H; rw [hy257]; with_reducible exact H2_) | (have H2_ := (Option.bind_some _ _).symm.trans H; with_reducible exact H2_) | with_reducible exact H | (rw [hy257]; exact H) | exact H
                have Ny257 := aM hy257
                clear hy257
                have H' := aM H
                clear H
                go_wp2_with (first | ((with_reducible refine gate_dst (N := 33) rfl ?_); refine Kd.R_lit (Kd.int .u8) _ 5 ?hg (N := 33) ?hd (xs := ([(48 + ((x25_3) % 256)) % 256] : List Int)) (inner := [.int .u8 ((48 + ((x25_3) % 256)) % 256)]) (ok := fun _ => True) (okp := fun _ => True) ?hr ?hp (fun _ hk => hk) trivial (Below.refl _ _) (Nat.le_refl _) (by simp) ?_; (case hd => rfl); (case hg => rfl); (case hr => go_simp); (case hp => exact (Reps.one (show Kd.M (Kd.int .u8) _ _ _ ((48 + ((x25_3) % 256)) % 256) [.int .u8 ((48 + ((x25_3) % 256)) % 256)] from rfl) (Reps.none _ _))); intro v255 w16 ho17 hb hg_ hnew_; clear hg_ hnew_; rw [← Ny254.out] at ho17; replace HO_6 := aM (Kd.R_below HO_6.out hb); replace HO_18 := aM (Kd.R_below HO_18.out hb); have HO256 := aM (Kd.R_lower ho17 (below_size HB.out)); replace BK245 := aM (blk_below (g := gb245) (o := .cells #[.slice (some ad252) l0_0.length c0_0, .slice A0_1 l0_1.length c0_1] 31 (0, 0)) BK245.out hb); replace HB := aM (below_step HB.out hb); clear hb ho17; have hcv18 := own_string (P := Try.prog) Try.underlying89 Try.underlying5 Try.underlying9 (Kd.own_of_R HO256.out)) | ((with_reducible refine gate_builtin (b := .append) (xs := #[.tmp 28, .tmp 36]) rfl ?_); at_builtin; refine Kd.R_append Kd.string (w0 := w) w.heap.size rfl (.tmp 28) (.tmp 36) 47 9 (.string ⟨#[]⟩) 16 rfl Try.underlying47 info9 rfl (by decide) (by omega) u6 x6_3 ((rdOf ByteArray.empty x3_1 x20_2) ++ (strOfNums y254)) [.string ((rdOf ByteArray.empty x3_1 x20_2) ++ (strOfNums y254))] (fun k_ => some k_ ≠ (.slice (some ad253) x3_1.length co9 : Value).ownBlock) (fun _ => False) rfl rfl ?aP (fun _ hk => hk.elim) ?aF ?aO ?aB ?aS ?aL ?_; (case aP => exact rfl); (case aB => exact HB.out); (case aF => exact (fun k_ hk => Kd.fresh' (Kd.R_lt HO_18.out) k_ hk)); (case aO => exact HO_6.out); (case aS => exact (below_size HB.out)); (case aL => have := LMc15.out; omega); intro v258 w19 ho hb hg hat; rw [← Ny257.out] at ho; replace HO_18 := aM (Kd.R_after (ok := (fun _ => True)) (by (with_reducible repeat (first | apply rA | apply rN | apply rD)); exact Kd.R_mono HO_18.out (fun _ hk => ⟨trivial, hk⟩)) hg hat); replace BK245 := aM (blk_grown (g := gb245) (o := .cells #[.slice (some ad252) l0_0.length c0_0, .slice A0_1 l0_1.length c0_1] 31 (0, 0)) BK245.out hg (Kd.R_ne HO_6.out BK245.out (by decide))); replace HO256 := aM (Kd.R_over' HO256.out (Kd.R_typed HO_6.out) (by decide) hg); replace HB := aM (hb); have HO259 := aM (ho); clear ho hb hg hat))
                go_roundg k3
                case measure => have := HK1.out; have := HK2.out; have := HK3.out; omega
                case rel => exact ⟨(y257), (wrap64 (x25_3 + 1)), rfl, H', ⟨by have := HK1.out; have := HK2.out; have := HK3.out; omega⟩, HO259, ⟨by (with_reducible repeat (first | apply rA | apply rN | apply rD)); exact Kd.R_mono HO_18.out (fun _ hk => hk.2)⟩, BK245, HB⟩
               ·rw [if_neg c15] at H
                exact absurd H (by simp)
              ·rw [if_neg c14] at H
               exact absurd H (by simp)
             ·rw [if_neg c13] at H
              have c13b0 : decide (x25_3 < (rd l0_0 x14_1)) = false := decide_eq_false c13
              clear c13
              have H' := aM H
              clear H
              go_wp2
              go_roundg k3
              case measure => have := HK1.out; have := HK2.out; have := HK3.out; omega
              case rel => exact ⟨(x6_3), (wrap64 (x20_2 + 1)), rfl, H', ⟨by have := HK1.out; have := HK2.out; have := HK3.out; omega⟩, HO_6, HO_18, BK245, HB⟩
          ·rw [if_neg c12] at H
           exact absurd H (by simp)
         ·rw [if_neg c11] at H
          exact absurd H (by simp)
        ·rw [if_neg c10] at H
         have c10b0 : decide (x20_2 < (x3_1.length : Int)) = false := decide_eq_false c10
         clear c10
         have H' := aM H
         clear H
         go_wp2
         go_roundg k2
         case measure => have := HK1.out; have := HK2.out; omega
         case rel => exact ⟨(x6_2), (wrap64 (x14_1 + 1)), rfl, H', ⟨by have := HK1.out; have := HK2.out; omega⟩, ⟨by (with_reducible repeat (first | apply rA | apply rN | apply rD)); exact Kd.R_mono HO_6.out (fun _ hk => trivial)⟩, BK245, HB⟩
     ·rw [if_neg c8] at H
      exact absurd H (by simp)
    ·rw [if_neg c7] at H
     exact absurd H (by simp)
   ·rw [if_neg c6] at H
    have c6b0 : decide (x14_1 < (l0_0.length : Int)) = false := decide_eq_false c6
    clear c6
    replace H := Option.bind_eq_some_iff.mp H
    obtain ⟨t249, A200, H⟩ := H
    replace H : (some t249) = some r := H
    have A20 := aM A200
    clear A200
    obtain rfl := Option.some.inj H
    obtain ⟨Ao21, co21, eo21⟩ := Kd.R_slice HO_3.out
    subst eo21
    go_wp2_with (first | (go_at_call 53; (with_reducible refine (slices_DeleteFunc_string_string.calls 54 #[.pointer (some ⟨gb245, 0, none⟩)] (Go.Proofs.enters_of Try.func54 (by kernel_rfl) rfl) (impl_Bolts_states_1.rule l0_0 l0_1) k1 Ao21 co21 x3_1 t249 w.heap.size (fun W => W.heap[gb245]? = some (.cells #[.slice A0_0 l0_0.length c0_0, .slice A0_1 l0_1.length c0_1] 31 (0, 0)) ∧ Below w.heap.size w W) _ HO_3.out ⟨BK245.out, HB.out⟩ ?i1 ?i2 ?i3 A20.out).mono ?_); (case i1 => intro W W' hW hb; exact ⟨blk_below (g := gb245) (o := .cells #[.slice A0_0 l0_0.length c0_0, .slice A0_1 l0_1.length c0_1] 31 (0, 0)) hW.1 hb, below_step hW.2 hb⟩); (case i2 => intro W g j v hg hW; exact ⟨(Below.heap_setCell W ⟨g, j, none⟩ v gb245 (fun e => (Kd.R_ne HO_3.out BK245.out (by decide)) (by rw [e]; exact hg.symm))).trans hW.1, below_set hW.2 (Kd.R_base HO_3.out g hg)⟩); (case i3 => intro j x b W hW hj; exact impl_Bolts_states_1.calls gb245 A0_0 c0_0 l0_0 A0_1 c0_1 l0_1 j x b W hW.1 (Kd.C_below HR0_0.out hW.2) HC0_0.out (Kd.C_below HR0_1.out hW.2) HC0_1.out hj); rintro e w22 ⟨vz, rfl, ho, hI⟩; have HOZ := aM ho; have HIZ := aM hI.2; clear ho hI))
    go_ret
    exact ⟨_, rfl, HOZ.out, HIZ.out⟩

/-! ### impl_Bolts_isState: function 63 -/
def impl_Bolts_isState.l0 : Nat → ByteArray → Int → Int → List Int → List (S77) → Option (Bool)
 | 0, _, _, _, _, _ => none
 | k + 1, x1, x13, x14, x261000, x261001 => if x14 < x13 then (if 0 ≤ x14 then (if x14 < (x1.size : Int) then (if x14 < (x261000.length : Int) then ((impl_in.f (wrap64 ((wrap64 (bt x1 x14)) - 48)) 0 (wrap64 ((rd x261000 x14) - 1))).bind fun t262 => (if t262 = true then (impl_Bolts_isState.l0 k x1 x13 (wrap64 (x14 + 1)) x261000 x261001) else (some false))) else (none)) else (none)) else (none)) else (some true)
def impl_Bolts_isState.f (k : Nat) (l0_0 : List Int) (l0_1 : List (S77)) (a1 : ByteArray) : Option (Bool) := if (a1.size : Int) = (l0_0.length : Int) then (impl_Bolts_isState.l0 k a1 (a1.size : Int) 0 l0_0 l0_1) else (some false)
theorem impl_Bolts_isState.mono_l : ∀ k, (∀ y0 y1 y2 y3 y4, LeO (impl_Bolts_isState.l0 k y0 y1 y2 y3 y4) (impl_Bolts_isState.l0 (k + 1) y0 y1 y2 y3 y4))
 | 0 => fun _ _ _ _ _ r h => by simp [impl_Bolts_isState.l0] at h
 | k + 1 => by
  have ih0 := impl_Bolts_isState.mono_l k
  ·intro y0 y1 y2 y3 y4
   unfold impl_Bolts_isState.l0
   repeat' first
   | (with_reducible exact ih0 _ _ _ _ _)
   | (with_reducible exact LeO.refl _)
   | (with_reducible exact LeO.none _)
   | (with_reducible refine LeO.ite ?_ ?_)
   | (with_reducible refine LeO.bind ?_ (fun _ => ?_))
   | exact ih0 _ _ _ _ _
   | exact LeO.none _
   | refine LeO.ite ?_ ?_
   | refine LeO.bind ?_ (fun _ => ?_)
theorem impl_Bolts_isState.mono : ∀ a0 a1 a2 k, LeO (impl_Bolts_isState.f k a0 a1 a2) (impl_Bolts_isState.f (k + 1) a0 a1 a2) := by
 intro a0 a1 a2 k
 have ih0 := impl_Bolts_isState.mono_l k
 unfold impl_Bolts_isState.f
 repeat' first
   | (with_reducible exact ih0 _ _ _ _ _)
   | (with_reducible exact LeO.refl _)
   | (with_reducible exact LeO.none _)
   | (with_reducible refine LeO.ite ?_ ?_)
   | (with_reducible refine LeO.bind ?_ (fun _ => ?_))
   | exact ih0 _ _ _ _ _
   | exact LeO.none _
   | refine LeO.ite ?_ ?_
   | refine LeO.bind ?_ (fun _ => ?_)
set_option maxHeartbeats 8000000 in
set_option maxRecDepth 100000 in
theorem impl_Bolts_isState.calls (k : Nat) (A0_0 : Option Addr) (c0_0 : Nat) (l0_0 : List Int) (A0_1 : Option Addr) (c0_1 : Nat) (l0_1 : List (S77)) (a1 : ByteArray) (r : Bool) (w : World) (hr0_0 : Kd.C (Kd.int .i64) w A0_0 l0_0.length l0_0) (hc0_0 : l0_0.length ≤ c0_0) (hr0_1 : Kd.C k77 w A0_1 l0_1.length l0_1) (hc0_1 : l0_1.length ≤ c0_1) (h : impl_Bolts_isState.f k l0_0 l0_1 a1 = some r) :
  Calls Try.prog 63 #[.agg #[.slice A0_0 l0_0.length c0_0, .slice A0_1 l0_1.length c0_1], .string a1] w fun e w' => e = .returned (.bool r) ∧ Below w.heap.size w w' := by
 have hu31 := Try.underlying31
 have HR0_0 := aM hr0_0
 have HC0_0 := aM hc0_0
 clear hr0_0 hc0_0
 have HR0_1 := aM hr0_1
 have HC0_1 := aM hc0_1
 clear hr0_1 hc0_1
 have HB := aM (Below.refl w.heap.size w)
 have H : (if (a1.size : Int) = (l0_0.length : Int) then (impl_Bolts_isState.l0 k a1 (a1.size : Int) 0 l0_0 l0_1) else (some false)) = some r := h
 clear h
 by_cases c3 : (a1.size : Int) = (l0_0.length : Int)
 ·rw [if_pos c3] at H
  have c3b0 : ((a1.size : Int) == (l0_0.length : Int)) = true := beq_iff_eq.mpr c3
  have c3b1 : ((a1.size : Int) != (l0_0.length : Int)) = false := bne_eq_false_iff_eq.mpr c3
  have c3b2 : (a1.size == l0_0.length) = true := by first | simpa using c3 | (simp at c3 ⊢; omega)
  clear c3
  have H' := aM H
  clear H
  go_enter Try.func63, Try.ntmps63
  go_wp2_with (first | ((with_reducible refine gate_dst (N := 2) rfl ?_); refine box_event ?hg (N := 2) ?hd (cs := #[.slice A0_0 l0_0.length c0_0, .slice A0_1 l0_1.length c0_1]) (t := 31) ?hr ?_; (case hd => rfl); (case hg => rfl); (case hr => go_simp); intro gb260 hg w4 hbox hb; have BK260 := aM (hbox); have GW260 := aM ((by rw [hg]; exact (below_size HB.out) : w.heap.size ≤ gb260)); replace HB := aM (below_step HB.out hb); have GE260 := GW260; clear hb hbox hg; have hcz5_0 : w4.cell? ⟨gb260, 0, none⟩ = some (.slice A0_0 l0_0.length c0_0) := (blk_cell BK260.out 0).trans rfl; have hcz5_1 : w4.cell? ⟨gb260, 1, none⟩ = some (.slice A0_1 l0_1.length c0_1) := (blk_cell BK260.out 1).trans rfl; have hfz5_0 := blk_frozen BK260.out 0; have hfz5_1 := blk_frozen BK260.out 1))
  repeat (go_quiet (first | ((with_reducible refine gate_dst (N := 2) rfl ?_); refine box_event ?hg (N := 2) ?hd (cs := #[.slice A0_0 l0_0.length c0_0, .slice A0_1 l0_1.length c0_1]) (t := 31) ?hr ?_; (case hd => rfl); (case hg => rfl); (case hr => go_simp); intro gb260 hg w4 hbox hb; have BK260 := aM (hbox); have GW260 := aM ((by rw [hg]; exact (below_size HB.out) : w.heap.size ≤ gb260)); replace HB := aM (below_step HB.out hb); have GE260 := GW260; clear hb hbox hg; have hcz5_0 : w4.cell? ⟨gb260, 0, none⟩ = some (.slice A0_0 l0_0.length c0_0) := (blk_cell BK260.out 0).trans rfl; have hcz5_1 : w4.cell? ⟨gb260, 1, none⟩ = some (.slice A0_1 l0_1.length c0_1) := (blk_cell BK260.out 1).trans rfl; have hfz5_0 := blk_frozen BK260.out 0; have hfz5_1 := blk_frozen BK260.out 1)); try go_wp2_with (first | ((with_reducible refine gate_dst (N := 2) rfl ?_); refine box_event ?hg (N := 2) ?hd (cs := #[.slice A0_0 l0_0.length c0_0, .slice A0_1 l0_1.length c0_1]) (t := 31) ?hr ?_; (case hd => rfl); (case hg => rfl); (case hr => go_simp); intro gb260 hg w4 hbox hb; have BK260 := aM (hbox); have GW260 := aM ((by rw [hg]; exact (below_size HB.out) : w.heap.size ≤ gb260)); replace HB := aM (below_step HB.out hb); have GE260 := GW260; clear hb hbox hg; have hcz5_0 : w4.cell? ⟨gb260, 0, none⟩ = some (.slice A0_0 l0_0.length c0_0) := (blk_cell BK260.out 0).trans rfl; have hcz5_1 : w4.cell? ⟨gb260, 1, none⟩ = some (.slice A0_1 l0_1.length c0_1) := (blk_cell BK260.out 1).trans rfl; have hfz5_0 := blk_frozen BK260.out 0; have hfz5_1 := blk_frozen BK260.out 1)))
  go_loopg [14] k (fun kq v14 w' => ∃ (x14_1 : Int), v14 = .int .i64 x14_1 ∧ Aside0 (impl_Bolts_isState.l0 kq a1 (a1.size : Int) x14_1 l0_0 l0_1 = some r) ∧ Aside0 (kq ≤ k) ∧ Aside0 (w'.heap[gb260]? = some (.cells #[(.slice A0_0 l0_0.length c0_0), (.slice A0_1 l0_1.length c0_1)] 31 (0, 0))) ∧ Aside0 (Below w.heap.size w w'))
  case atStart => exact ⟨(0), rfl, H', ⟨Nat.le_refl _⟩, BK260, HB⟩
  case round =>
   clear H'
   try clear p2
   try clear c3
   try clear c3b0
   try clear c3b1
   try clear c3b2
   try clear hcz5_0
   try clear hcz5_1
   try clear hfz5_0
   try clear hfz5_1
   obtain ⟨x14_1, rfl, HA, HK1, BK260, HB⟩ := hrel
   cases gk with
   | zero => exact absurd HA.out (by simp [impl_Bolts_isState.l0])
   | succ k1 =>
    have H := HA.out
    clear HA
    simp only [impl_Bolts_isState.l0] at H
    by_cases c6 : x14_1 < (a1.size : Int)
    ·rw [if_pos c6] at H
     have c6b0 : decide (x14_1 < (a1.size : Int)) = true := decide_eq_true c6
     clear c6
     by_cases c7 : 0 ≤ x14_1
     ·rw [if_pos c7] at H
      have c7b0 : decide (0 ≤ x14_1) = true := decide_eq_true c7
      clear c7
      by_cases c8 : x14_1 < (a1.size : Int)
      ·rw [if_pos c8] at H
       have c8b0 : decide (x14_1 < (a1.size : Int)) = true := decide_eq_true c8
       clear c8
       by_cases c10 : x14_1 < (l0_0.length : Int)
       ·rw [if_pos c10] at H
        have c10b0 : decide (x14_1 < (l0_0.length : Int)) = true := decide_eq_true c10
        clear c10
        replace H := Option.bind_eq_some_iff.mp H
        obtain ⟨t262, A110, H⟩ := H
        replace H : (if t262 = true then (impl_Bolts_isState.l0 k1 a1 (a1.size : Int) (wrap64 (x14_1 + 1)) l0_0 l0_1) else (some false)) = some r := H
        have A11 := aM A110
        clear A110
        by_cases c12 : t262 = true
        ·subst c12
         have H1 : (impl_Bolts_isState.l0 k1 a1 (a1.size : Int) (wrap64 (x14_1 + 1)) l0_0 l0_1) = some r := by rw [if_pos rfl] at H; exact H
         clear H; have H := H1; clear H1
         have H' := aM H
         clear H
         have p9 : 0 ≤ (x14_1 : Int) := oT (by assumption)
         have q9 : x14_1 < (a1.size : Int) := oT (by assumption)
         have hx9 := bt_at a1 x14_1
         replace p9 := eq_true p9
         replace q9 := eq_true q9
         have hcz13_0 : wr.cell? ⟨gb260, 0, none⟩ = some (.slice A0_0 l0_0.length c0_0) := (blk_cell BK260.out 0).trans rfl
         have hcz13_1 : wr.cell? ⟨gb260, 1, none⟩ = some (.slice A0_1 l0_1.length c0_1) := (blk_cell BK260.out 1).trans rfl
         have hfz13_0 := blk_frozen BK260.out 0
         have hfz13_1 := blk_frozen BK260.out 1
         have p261 : 0 ≤ (x14_1 : Int) := oT (by assumption)
         have q261 : x14_1 < (l0_0.length : Int) := oT (by assumption)
         obtain ⟨ad261, e261, hx261_0⟩ := Kd.at_int HR0_0.out x14_1 p261 q261
         cases e261
         replace hx261_0 := (HB.out.cell (World.block_lt_of_cell? w _ hx261_0)).trans hx261_0
         replace p261 := eq_true p261
         replace q261 := eq_true q261
         go_wp2_with (first | (go_at_call 46; (with_reducible refine (impl_in.calls (wrap64 ((wrap64 (bt a1 x14_1)) - 48)) 0 (wrap64 ((rd l0_0 x14_1) - 1)) true _ A11.out).mono ?_); rintro e w' ⟨rfl, ⟨nd, rfl⟩⟩; (try first | exact ⟨rfl, _, World.drewN_drewN _ _ _⟩ | exact ⟨rfl, _, Eq.trans (World.drewN_drewN _ _ _) (congrArg (World.drewN _) (Nat.add_assoc _ _ _))⟩)))
         repeat (go_quiet (first | (go_at_call 46; (with_reducible refine (impl_in.calls (wrap64 ((wrap64 (bt a1 x14_1)) - 48)) 0 (wrap64 ((rd l0_0 x14_1) - 1)) true _ A11.out).mono ?_); rintro e w' ⟨rfl, ⟨nd, rfl⟩⟩; (try first | exact ⟨rfl, _, World.drewN_drewN _ _ _⟩ | exact ⟨rfl, _, Eq.trans (World.drewN_drewN _ _ _) (congrArg (World.drewN _) (Nat.add_assoc _ _ _))⟩))); try go_wp2_with (first | (go_at_call 46; (with_reducible refine (impl_in.calls (wrap64 ((wrap64 (bt a1 x14_1)) - 48)) 0 (wrap64 ((rd l0_0 x14_1) - 1)) true _ A11.out).mono ?_); rintro e w' ⟨rfl, ⟨nd, rfl⟩⟩; (try first | exact ⟨rfl, _, World.drewN_drewN _ _ _⟩ | exact ⟨rfl, _, Eq.trans (World.drewN_drewN _ _ _) (congrArg (World.drewN _) (Nat.add_assoc _ _ _))⟩))))
         go_roundg k1
         case measure => have := HK1.out; omega
         case rel => exact ⟨(wrap64 (x14_1 + 1)), rfl, H', ⟨by have := HK1.out; omega⟩, ⟨by repeat first | exact BK260.out | refine kN ?_ _ | refine kD ?_ | refine kA ?_ _⟩, ⟨by repeat first | exact HB.out | apply bA | apply bN | apply bD | refine bS ?_ GE260.out⟩⟩
        ·replace c12 := Bool.eq_false_iff.mpr c12
         subst c12
         have H1 : (some false) = some r := by rw [if_neg (show ¬ (false = true) by decide)] at H; exact H
         clear H; have H := H1; clear H1
         obtain rfl := Option.some.inj H
         have p9 : 0 ≤ (x14_1 : Int) := oT (by assumption)
         have q9 : x14_1 < (a1.size : Int) := oT (by assumption)
         have hx9 := bt_at a1 x14_1
         replace p9 := eq_true p9
         replace q9 := eq_true q9
         have hcz14_0 : wr.cell? ⟨gb260, 0, none⟩ = some (.slice A0_0 l0_0.length c0_0) := (blk_cell BK260.out 0).trans rfl
         have hcz14_1 : wr.cell? ⟨gb260, 1, none⟩ = some (.slice A0_1 l0_1.length c0_1) := (blk_cell BK260.out 1).trans rfl
         have hfz14_0 := blk_frozen BK260.out 0
         have hfz14_1 := blk_frozen BK260.out 1
         have p261 : 0 ≤ (x14_1 : Int) := oT (by assumption)
         have q261 : x14_1 < (l0_0.length : Int) := oT (by assumption)
         obtain ⟨ad261, e261, hx261_0⟩ := Kd.at_int HR0_0.out x14_1 p261 q261
         cases e261
         replace hx261_0 := (HB.out.cell (World.block_lt_of_cell? w _ hx261_0)).trans hx261_0
         replace p261 := eq_true p261
         replace q261 := eq_true q261
         go_wp2_with (first | (go_at_call 46; (with_reducible refine (impl_in.calls (wrap64 ((wrap64 (bt a1 x14_1)) - 48)) 0 (wrap64 ((rd l0_0 x14_1) - 1)) false _ A11.out).mono ?_); rintro e w' ⟨rfl, ⟨nd, rfl⟩⟩; (try first | exact ⟨rfl, _, World.drewN_drewN _ _ _⟩ | exact ⟨rfl, _, Eq.trans (World.drewN_drewN _ _ _) (congrArg (World.drewN _) (Nat.add_assoc _ _ _))⟩)))
         repeat (go_quiet (first | (go_at_call 46; (with_reducible refine (impl_in.calls (wrap64 ((wrap64 (bt a1 x14_1)) - 48)) 0 (wrap64 ((rd l0_0 x14_1) - 1)) false _ A11.out).mono ?_); rintro e w' ⟨rfl, ⟨nd, rfl⟩⟩; (try first | exact ⟨rfl, _, World.drewN_drewN _ _ _⟩ | exact ⟨rfl, _, Eq.trans (World.drewN_drewN _ _ _) (congrArg (World.drewN _) (Nat.add_assoc _ _ _))⟩))); try go_wp2_with (first | (go_at_call 46; (with_reducible refine (impl_in.calls (wrap64 ((wrap64 (bt a1 x14_1)) - 48)) 0 (wrap64 ((rd l0_0 x14_1) - 1)) false _ A11.out).mono ?_); rintro e w' ⟨rfl, ⟨nd, rfl⟩⟩; (try first | exact ⟨rfl, _, World.drewN_drewN _ _ _⟩ | exact ⟨rfl, _, Eq.trans (World.drewN_drewN _ _ _) (congrArg (World.drewN _) (Nat.add_assoc _ _ _))⟩))))
         go_ret
         exact ⟨rfl, by repeat first | exact HB.out | apply bA | apply bN | apply bD | refine bS ?_ GE260.out⟩
       ·rw [if_neg c10] at H
        exact absurd H (by simp)
      ·rw [if_neg c8] at H
       exact absurd H (by simp)
     ·rw [if_neg c7] at H
      exact absurd H (by simp)
    ·rw [if_neg c6] at H
     have c6b0 : decide (x14_1 < (a1.size : Int)) = false := decide_eq_false c6
     clear c6
     obtain rfl := Option.some.inj H
     go_wp2
     repeat (go_quiet (fail); try go_wp2)
     go_ret
     exact ⟨rfl, HB.out⟩
 ·rw [if_neg c3] at H
  have c3b0 : ((a1.size : Int) == (l0_0.length : Int)) = false := beq_eq_false_iff_ne.mpr c3
  have c3b1 : ((a1.size : Int) != (l0_0.length : Int)) = true := bne_iff_ne.mpr c3
  have c3b2 : (a1.size == l0_0.length) = false := by first | simpa using c3 | (simp at c3 ⊢; omega)
  obtain rfl := Option.some.inj H
  go_enter Try.func63, Try.ntmps63
  go_wp2_with (first | ((with_reducible refine gate_dst (N := 2) rfl ?_); refine box_event ?hg (N := 2) ?hd (cs := #[.slice A0_0 l0_0.length c0_0, .slice A0_1 l0_1.length c0_1]) (t := 31) ?hr ?_; (case hd => rfl); (case hg => rfl); (case hr => go_simp); intro gb260 hg w15 hbox hb; have BK260 := aM (hbox); have GW260 := aM ((by rw [hg]; exact (below_size HB.out) : w.heap.size ≤ gb260)); replace HB := aM (below_step HB.out hb); have GE260 := GW260; clear hb hbox hg; have hcz16_0 : w15.cell? ⟨gb260, 0, none⟩ = some (.slice A0_0 l0_0.length c0_0) := (blk_cell BK260.out 0).trans rfl; have hcz16_1 : w15.cell? ⟨gb260, 1, none⟩ = some (.slice A0_1 l0_1.length c0_1) := (blk_cell BK260.out 1).trans rfl; have hfz16_0 := blk_frozen BK260.out 0; have hfz16_1 := blk_frozen BK260.out 1))
  repeat (go_quiet (first | ((with_reducible refine gate_dst (N := 2) rfl ?_); refine box_event ?hg (N := 2) ?hd (cs := #[.slice A0_0 l0_0.length c0_0, .slice A0_1 l0_1.length c0_1]) (t := 31) ?hr ?_; (case hd => rfl); (case hg => rfl); (case hr => go_simp); intro gb260 hg w15 hbox hb; have BK260 := aM (hbox); have GW260 := aM ((by rw [hg]; exact (below_size HB.out) : w.heap.size ≤ gb260)); replace HB := aM (below_step HB.out hb); have GE260 := GW260; clear hb hbox hg; have hcz16_0 : w15.cell? ⟨gb260, 0, none⟩ = some (.slice A0_0 l0_0.length c0_0) := (blk_cell BK260.out 0).trans rfl; have hcz16_1 : w15.cell? ⟨gb260, 1, none⟩ = some (.slice A0_1 l0_1.length c0_1) := (blk_cell BK260.out 1).trans rfl; have hfz16_0 := blk_frozen BK260.out 0; have hfz16_1 := blk_frozen BK260.out 1)); try go_wp2_with (first | ((with_reducible refine gate_dst (N := 2) rfl ?_); refine box_event ?hg (N := 2) ?hd (cs := #[.slice A0_0 l0_0.length c0_0, .slice A0_1 l0_1.length c0_1]) (t := 31) ?hr ?_; (case hd => rfl); (case hg => rfl); (case hr => go_simp); intro gb260 hg w15 hbox hb; have BK260 := aM (hbox); have GW260 := aM ((by rw [hg]; exact (below_size HB.out) : w.heap.size ≤ gb260)); replace HB := aM (below_step HB.out hb); have GE260 := GW260; clear hb hbox hg; have hcz16_0 : w15.cell? ⟨gb260, 0, none⟩ = some (.slice A0_0 l0_0.length c0_0) := (blk_cell BK260.out 0).trans rfl; have hcz16_1 : w15.cell? ⟨gb260, 1, none⟩ = some (.slice A0_1 l0_1.length c0_1) := (blk_cell BK260.out 1).trans rfl; have hfz16_0 := blk_frozen BK260.out 0; have hfz16_1 := blk_frozen BK260.out 1)))
  go_ret
  exact ⟨rfl, HB.out⟩

/-! ### impl_Bolts_slid: function 36 (told by hand) -/
/-- A text with one byte slid by 1 or -1. -/
def impl_Bolts_slid.out (s : ByteArray) (i : Nat) (by_ : Int) : ByteArray := ⟨(s.data.toList.set i (UInt8.ofNat (((s.data.toList.getD i 0).toNat + (if by_ = 1 then 1 else 255)) % 256))).toArray⟩
def impl_Bolts_slid.f (k : Nat) (l0_0 : List Int) (l0_1 : List S77) (a1 : ByteArray) (a2_0 a2_1 : Int) : Option (ByteArray × Bool) :=
 (impl_in.f a2_0 0 (wrap64 ((a1.size : Int) - 1))).bind fun t => if t = true then (if a2_1 = 1 ∨ a2_1 = -1 then (if 0 ≤ a2_0 ∧ a2_0 < (a1.size : Int) ∧ a1.size ≤ 4611686018427387904 then
  ((impl_Bolts_isState.f k l0_0 l0_1 (impl_Bolts_slid.out a1 a2_0.toNat a2_1)).bind fun a => if a = true then ((impl_Bolts_allowed.f k l0_0 l0_1 (impl_Bolts_slid.out a1 a2_0.toNat a2_1)).bind fun b => some (impl_Bolts_slid.out a1 a2_0.toNat a2_1, b)) else some (impl_Bolts_slid.out a1 a2_0.toNat a2_1, false)) else none) else some (⟨#[]⟩, false)) else some (⟨#[]⟩, false)
theorem impl_Bolts_slid.mono : ∀ a0 a1 a2 a3 a4 k, LeO (impl_Bolts_slid.f k a0 a1 a2 a3 a4) (impl_Bolts_slid.f (k + 1) a0 a1 a2 a3 a4) := fun _ _ _ _ _ k =>
 LeO.bind (LeO.refl _) (fun _ => LeO.ite (LeO.ite (LeO.ite (LeO.bind (impl_Bolts_isState.mono _ _ _ _) (fun _ => LeO.ite (LeO.bind (impl_Bolts_allowed.mono _ _ _ _) (fun _ => LeO.refl _)) (LeO.refl _))) (LeO.refl _)) (LeO.refl _)) (LeO.refl _))
theorem impl_Bolts_slid.conv (w7 : World) (a1 : ByteArray) (i : Nat) (hi : i < a1.size) (v : UInt8) : ∃ (W1 : World) (cap : Nat), (convert 9 89 (.string a1)).run Try.prog w7 = .ok (.slice (some ⟨w7.heap.size, 0, none⟩) a1.size cap) W1 ∧ Below w7.heap.size w7 W1 ∧ W1.frozen? ⟨w7.heap.size, i, none⟩ = false ∧
  W1.cell? ⟨w7.heap.size, i, none⟩ = some (.int .u8 (a1.data.toList.getD i 0).toNat) ∧ (convert 89 9 (.slice (some ⟨w7.heap.size, 0, none⟩) a1.size cap)).run Try.prog ((W1.setCell ⟨w7.heap.size, i, none⟩ (.int .u8 (v.toNat : Int))).drew) = .ok (.string ⟨(a1.data.toList.set i v).toArray⟩) ((W1.setCell ⟨w7.heap.size, i, none⟩ (.int .u8 (v.toNat : Int))).drew) := by
 have hcells : ∀ j, j < a1.size → (Lib.bytesWorld w7 5 a1).cell? ⟨w7.heap.size, j, none⟩ = some (.int .u8 (a1.data.toList.getD j 0).toNat) := fun j hj => Lib.bytesWorld_cell w7 5 a1 j hj
 have hat := Lib.bytesWorld_at_new w7 5 a1
 refine ⟨Lib.bytesWorld w7 5 a1, grownCap w7 a1.size 0 5, Lib.run_convert_string_bytes (P := Try.prog) w7 9 89 5 a1 Try.underlying9 Try.underlying89 Try.underlying5, bytes_below (Below.refl _ _) (Nat.le_refl _) 5 a1, ?_, hcells i hi, ?_⟩
 ·have hs : a1.size ≤ (Lib.bytesCells w7 5 a1).size := by simp [Lib.bytesCells, Array.size_append]
  simp [World.frozen?, hat]
  omega
 ·generalize grownCap w7 a1.size 0 5 = cap
  generalize Lib.bytesWorld w7 5 a1 = W1 at hcells
  have hl : (a1.data.toList.set i v).length = a1.size := by rw [List.length_set, Array.length_toList]; rfl
  have h := run_convert_bytes_back (P := Try.prog) ((W1.setCell ⟨w7.heap.size, i, none⟩ (.int .u8 (v.toNat : Int))).drew) 89 9 5 ⟨w7.heap.size, 0, none⟩ cap (a1.data.toList.set i v) Try.underlying89 Try.underlying5 Try.underlying9 (fun j hj => by
   rw [hl] at hj
   rw [add_plain, List.getElem_set]
   by_cases e : i = j
   ·subst e
    rw [if_pos rfl]
    exact World.cell?_setCell_same W1 _ _ (hcells i hi)
   ·rw [if_neg e]
    refine (World.cell?_setCell_other W1 _ _ _ (by intro h; injection h with _ h2 _; exact e h2)).trans ((hcells j hj).trans ?_)
    have hl2 : j < a1.data.toList.length := by rw [Array.length_toList]; exact hj
    simp [List.getD, List.getElem?_eq_getElem hl2])
  rw [hl] at h
  exact h
set_option maxHeartbeats 8000000 in
set_option maxRecDepth 100000 in
theorem impl_Bolts_slid.calls (k : Nat) (A0_0 : Option Addr) (c0_0 : Nat) (l0_0 : List Int) (A0_1 : Option Addr) (c0_1 : Nat) (l0_1 : List (S77)) (a1 : ByteArray) (a2_0 : Int) (a2_1 : Int) (r1 : ByteArray) (r2 : Bool) (w : World) (hr0_0 : Kd.C (Kd.int .i64) w A0_0 l0_0.length l0_0) (hc0_0 : l0_0.length ≤ c0_0) (hr0_1 : Kd.C k77 w A0_1 l0_1.length l0_1) (hc0_1 : l0_1.length ≤ c0_1) (h : impl_Bolts_slid.f k l0_0 l0_1 a1 a2_0 a2_1 = some (r1, r2)) :
  Calls Try.prog 36 #[.agg #[.slice A0_0 l0_0.length c0_0, .slice A0_1 l0_1.length c0_1], .string a1, .agg #[.int .i64 a2_0, .int .i64 a2_1]] w fun e w' => e = .returned (.tuple #[.string r1, .bool r2]) ∧ Below w.heap.size w w' := by
 have hu1 := Try.underlying31
 have hu2 := Try.underlying62
 unfold impl_Bolts_slid.f at h
 obtain ⟨t, A1_, h⟩ := Option.bind_eq_some_iff.mp h
 have HR0 := aM hr0_0
 have HR1 := aM hr0_1
 have HC0 := aM hc0_0
 have HC1 := aM hc0_1
 have HA := aM A1_
 clear hr0_0 hr0_1 hc0_0 hc0_1 A1_
 cases t with
 | false =>
  rw [if_neg (by simp)] at h
  simp only [Option.some.injEq, Prod.mk.injEq] at h
  obtain ⟨rfl, rfl⟩ := h
  go_enter Try.func36, Try.ntmps36
  go_wp2_with (first | ((with_reducible refine gate_dst (N := 3) rfl ?_); refine box_event ?hg (N := 3) ?hd (cs := #[.slice A0_0 l0_0.length c0_0, .slice A0_1 l0_1.length c0_1]) (t := 31) ?hr ?_; (case hd => rfl); (case hg => rfl); (case hr => go_simp); intro gb hg w5 hbox hb; have HB := aM hb; have BK := aM hbox; have GE := aM (show w.heap.size ≤ gb by rw [hg]; exact Nat.le_refl _); clear hb hbox hg) | ((with_reducible refine gate_dst (N := 5) rfl ?_); refine box_event ?hg (N := 5) ?hd (cs := #[.int .i64 a2_0, .int .i64 a2_1]) (t := 62) ?hr ?_; (case hd => rfl); (case hg => rfl); (case hr => go_simp); intro gs hg w6 hbox hb; have n0 := aM (below_step HB.out hb); have n1 := aM (blk_below (g := gb) (o := .cells #[.slice A0_0 l0_0.length c0_0, .slice A0_1 l0_1.length c0_1] 31 (0, 0)) BK.out hb); clear HB BK; have HB := n0; have BK := n1; have BS := aM hbox; have hy0 : w6.cell? ⟨gs, 0, none⟩ = some (.int .i64 a2_0) := (blk_cell hbox 0).trans rfl; have hy1 : w6.cell? ⟨gs, 1, none⟩ = some (.int .i64 a2_1) := (blk_cell hbox 1).trans rfl; clear hb hbox hg n0 n1) | (go_at_call 46; (with_reducible refine (impl_in.calls a2_0 0 (wrap64 ((a1.size : Int) - 1)) false _ HA.out).mono ?_); rintro e w' ⟨rfl, ⟨nd, rfl⟩⟩))
  go_ret2
  exact ⟨rfl, by repeat (first | exact HB.out | apply pw_below_drewN)⟩
 | true =>
  rw [if_pos rfl] at h
  by_cases c1 : ¬ (a2_1 = 1 ∨ a2_1 = -1)
  ·rw [if_neg c1] at h
   simp only [Option.some.injEq, Prod.mk.injEq] at h
   obtain ⟨rfl, rfl⟩ := h
   have d1 : (a2_1 != 1) = true := by simp; omega
   have d2 : (a2_1 != -1) = true := by simp; omega
   go_enter Try.func36, Try.ntmps36
   go_wp2_with (first | ((with_reducible refine gate_dst (N := 3) rfl ?_); refine box_event ?hg (N := 3) ?hd (cs := #[.slice A0_0 l0_0.length c0_0, .slice A0_1 l0_1.length c0_1]) (t := 31) ?hr ?_; (case hd => rfl); (case hg => rfl); (case hr => go_simp); intro gb hg w5 hbox hb; have HB := aM hb; have BK := aM hbox; have GE := aM (show w.heap.size ≤ gb by rw [hg]; exact Nat.le_refl _); clear hb hbox hg) | ((with_reducible refine gate_dst (N := 5) rfl ?_); refine box_event ?hg (N := 5) ?hd (cs := #[.int .i64 a2_0, .int .i64 a2_1]) (t := 62) ?hr ?_; (case hd => rfl); (case hg => rfl); (case hr => go_simp); intro gs hg w6 hbox hb; have n0 := aM (below_step HB.out hb); have n1 := aM (blk_below (g := gb) (o := .cells #[.slice A0_0 l0_0.length c0_0, .slice A0_1 l0_1.length c0_1] 31 (0, 0)) BK.out hb); clear HB BK; have HB := n0; have BK := n1; have BS := aM hbox; have hy0 : w6.cell? ⟨gs, 0, none⟩ = some (.int .i64 a2_0) := (blk_cell hbox 0).trans rfl; have hy1 : w6.cell? ⟨gs, 1, none⟩ = some (.int .i64 a2_1) := (blk_cell hbox 1).trans rfl; clear hb hbox hg n0 n1) | (go_at_call 46; (with_reducible refine (impl_in.calls a2_0 0 (wrap64 ((a1.size : Int) - 1)) true _ HA.out).mono ?_); rintro e w' ⟨rfl, ⟨nd, rfl⟩⟩))
   go_ret2
   exact ⟨rfl, by repeat (first | exact HB.out | apply pw_below_drewN)⟩
  ·replace c1 := Decidable.not_not.mp c1
   rw [if_pos c1] at h
   by_cases c2 : ¬ (0 ≤ a2_0 ∧ a2_0 < (a1.size : Int) ∧ a1.size ≤ 4611686018427387904)
   ·rw [if_neg c2] at h; exact absurd h (by simp)
   replace c2 := Decidable.not_not.mp c2
   rw [if_pos c2] at h
   obtain ⟨c2a, c2b, c2c⟩ := c2
   obtain ⟨i, rfl⟩ : ∃ i : Nat, a2_0 = (i : Int) := ⟨a2_0.toNat, by omega⟩
   have hi : i < a1.size := by omega
   have e1 : (i : Int).toNat = i := rfl
   rw [e1] at h
   obtain ⟨b, hb⟩ : ∃ b : UInt8, b = a1.data.toList.getD i 0 := ⟨_, rfl⟩
   obtain ⟨v, hv⟩ : ∃ v : UInt8, v = UInt8.ofNat ((b.toNat + (if a2_1 = 1 then 1 else 255)) % 256) := ⟨_, rfl⟩
   have hout : impl_Bolts_slid.out a1 i a2_1 = ⟨(a1.data.toList.set i v).toArray⟩ := by rw [hv, hb]; rfl
   have hvn : (v.toNat : Int) = ((b.toNat : Int) + a2_1) % 256 := by
    rw [hv]
    have := b.toNat_lt
    rcases c1 with rfl | rfl
    ·simp
    ·simp; omega
   have hvw : IntKind.u8.wrap ((b.toNat : Int) + IntKind.u8.wrap a2_1) = (v.toNat : Int) := by
    rw [hvn]
    simp [IntKind.wrap, IntKind.bits, IntKind.signed]
   have hvm : ((b.toNat : Int) + a2_1 % 256) % 256 = (v.toNat : Int) := by rw [hvn]; simp
   have hvm2 : ((b.toNat : Int) + a2_1) % 256 = (v.toNat : Int) := hvn.symm
   rw [hout] at h
   clear hout hvn hv
   generalize hO : (⟨(a1.data.toList.set i v).toArray⟩ : ByteArray) = out at h
   obtain ⟨a, A3_, h⟩ := Option.bind_eq_some_iff.mp h
   have HA3 := aM A3_
   have HH := aM h
   have HI := aM hi
   have HV := aM (And.intro hvw hvm2)
   have HVM := aM hvm
   have HO := aM hO
   have HBB := aM hb
   have C1 := aM c1
   clear A3_ h hvw hvm hvm2 hO hb c2c
   have c2d := decide_eq_true c2a
   have c2e := decide_eq_true c2b
   have G1 : Aside0 ((a2_1 != 1) = true → (a2_1 != -1) = false) := ⟨by rcases C1.out with rfl | rfl <;> simp⟩
   cases d1 : (a2_1 != 1) with
   | true =>
    have d2 : (a2_1 != -1) = false := G1.out d1
    have d2 : (a2_1 != -1) = false := G1.out d1
    cases a with
    | false =>
     have h := HH.out
     rw [if_neg (by simp)] at h
     simp only [Option.some.injEq, Prod.mk.injEq] at h
     obtain ⟨rfl, rfl⟩ := h
     go_enter Try.func36, Try.ntmps36
     go_wp2_with (first | ((with_reducible refine gate_dst (N := 3) rfl ?_); refine box_event ?hg (N := 3) ?hd (cs := #[.slice A0_0 l0_0.length c0_0, .slice A0_1 l0_1.length c0_1]) (t := 31) ?hr ?_; (case hd => rfl); (case hg => rfl); (case hr => go_simp); intro gb hg w5 hbox hb; have HB := aM hb; have BK := aM hbox; have GE := aM (show w.heap.size ≤ gb by rw [hg]; exact Nat.le_refl _); clear hb hbox hg) | ((with_reducible refine gate_dst (N := 5) rfl ?_); refine box_event ?hg (N := 5) ?hd (cs := #[.int .i64 (i : Int), .int .i64 a2_1]) (t := 62) ?hr ?_; (case hd => rfl); (case hg => rfl); (case hr => go_simp); intro gs hg w6 hbox hb; have n0 := aM (below_step HB.out hb); have n1 := aM (blk_below (g := gb) (o := .cells #[.slice A0_0 l0_0.length c0_0, .slice A0_1 l0_1.length c0_1] 31 (0, 0)) BK.out hb); clear HB BK; have HB := n0; have BK := n1; have BS := aM hbox; have hy0 : w6.cell? ⟨gs, 0, none⟩ = some (.int .i64 (i : Int)) := (blk_cell hbox 0).trans rfl; have hy1 : w6.cell? ⟨gs, 1, none⟩ = some (.int .i64 a2_1) := (blk_cell hbox 1).trans rfl; clear hb hbox hg n0 n1) | (go_at_call 46; (with_reducible refine (impl_in.calls (i : Int) 0 (wrap64 ((a1.size : Int) - 1)) true _ HA.out).mono ?_); rintro e w' ⟨rfl, ⟨nd, rfl⟩⟩; have n0 := aM (pw_below_drewN HB.out nd); have n1 := aM (blk_drewN BK.out nd); have n2 := aM (blk_drewN BS.out nd); clear HB BK BS hy0 hy1; have HB := n0; have BK := n1; have BS := n2; clear n0 n1 n2; generalize w6.drewN nd = w7 at HB BK BS ⊢; have hlg : gb < w7.heap.size := blk_lt (g := gb) (o := .cells #[.slice A0_0 l0_0.length c0_0, .slice A0_1 l0_1.length c0_1] 31 (0, 0)) BK.out; have hls : gs < w7.heap.size := blk_lt (g := gs) (o := .cells #[.int .i64 (i : Int), .int .i64 a2_1] 62 (0, 0)) BS.out; have hy0 : w7.cell? ⟨gs, 0, none⟩ = some (.int .i64 (i : Int)) := (blk_cell BS.out 0).trans rfl; have hy1 : w7.cell? ⟨gs, 1, none⟩ = some (.int .i64 a2_1) := (blk_cell BS.out 1).trans rfl; obtain ⟨W1, cap, hconv, hbel, hfz, hci, hback⟩ := impl_Bolts_slid.conv w7 a1 i HI.out v; rw [HO.out] at hback; rw [← HBB.out] at hci; have hz0 : W1.cell? ⟨gs, 0, none⟩ = some (.int .i64 (i : Int)) := (hbel.cell (p := ⟨gs, 0, none⟩) hls).trans ((blk_cell BS.out 0).trans rfl); have hz1 : W1.cell? ⟨gs, 1, none⟩ = some (.int .i64 a2_1) := (hbel.cell (p := ⟨gs, 1, none⟩) hls).trans ((blk_cell BS.out 1).trans rfl); have HB2 := aM (show Below w.heap.size w ((W1.setCell ⟨w7.heap.size, i, none⟩ (.int .u8 (v.toNat : Int))).drew) from below_drew1 ((below_step HB.out hbel).setCell HB.out.size _)); have HK2 := aM (show ((W1.setCell ⟨w7.heap.size, i, none⟩ (.int .u8 (v.toNat : Int))).drew).heap[gb]? = some (.cells #[.slice A0_0 l0_0.length c0_0, .slice A0_1 l0_1.length c0_1] 31 (0, 0)) from blk_drew (blk_far (blk_below (g := gb) (o := .cells #[.slice A0_0 l0_0.length c0_0, .slice A0_1 l0_1.length c0_1] 31 (0, 0)) BK.out hbel) (Nat.ne_of_lt hlg) _)); have hv1 := HV.out.1; have hv2 := HV.out.2; have hv3 := HVM.out; clear hbel HB BK BS hlg hls))
     go_region
     have hq0 : ((W1.setCell ⟨w7.heap.size, i, none⟩ (.int .u8 (v.toNat : Int))).drew).cell? ⟨gb, 0, none⟩ = some (.slice A0_0 l0_0.length c0_0) := (blk_cell HK2.out 0).trans rfl
     have hq1 : ((W1.setCell ⟨w7.heap.size, i, none⟩ (.int .u8 (v.toNat : Int))).drew).cell? ⟨gb, 1, none⟩ = some (.slice A0_1 l0_1.length c0_1) := (blk_cell HK2.out 1).trans rfl
     generalize (W1.setCell ⟨w7.heap.size, i, none⟩ (.int .u8 (v.toNat : Int))).drew = w8 at hback HB2 HK2 hq0 hq1 ⊢
     go_wp2_with (first | (go_at_call 63; (with_reducible refine (impl_Bolts_isState.calls k A0_0 c0_0 l0_0 A0_1 c0_1 l0_1 out false _ (Kd.C_below HR0.out HB2.out) HC0.out (Kd.C_below HR1.out HB2.out) HC1.out HA3.out).mono ?_); rintro e w9 ⟨rfl, hb⟩; have HB9 := aM (below_step HB2.out hb); have BK9 := aM (blk_below (g := gb) (o := .cells #[.slice A0_0 l0_0.length c0_0, .slice A0_1 l0_1.length c0_1] 31 (0, 0)) HK2.out hb); have hx0 : w9.cell? ⟨gb, 0, none⟩ = some (.slice A0_0 l0_0.length c0_0) := (blk_cell BK9.out 0).trans rfl; have hx1 : w9.cell? ⟨gb, 1, none⟩ = some (.slice A0_1 l0_1.length c0_1) := (blk_cell BK9.out 1).trans rfl; clear hb))
     go_ret2
     exact ⟨rfl, HB9.out⟩
    | true =>
     have h := HH.out
     rw [if_pos rfl] at h
     obtain ⟨bb, A4_, h⟩ := Option.bind_eq_some_iff.mp h
     simp only [Option.some.injEq, Prod.mk.injEq] at h
     obtain ⟨rfl, rfl⟩ := h
     have HA4 := aM A4_
     clear A4_
     go_enter Try.func36, Try.ntmps36
     go_wp2_with (first | ((with_reducible refine gate_dst (N := 3) rfl ?_); refine box_event ?hg (N := 3) ?hd (cs := #[.slice A0_0 l0_0.length c0_0, .slice A0_1 l0_1.length c0_1]) (t := 31) ?hr ?_; (case hd => rfl); (case hg => rfl); (case hr => go_simp); intro gb hg w5 hbox hb; have HB := aM hb; have BK := aM hbox; have GE := aM (show w.heap.size ≤ gb by rw [hg]; exact Nat.le_refl _); clear hb hbox hg) | ((with_reducible refine gate_dst (N := 5) rfl ?_); refine box_event ?hg (N := 5) ?hd (cs := #[.int .i64 (i : Int), .int .i64 a2_1]) (t := 62) ?hr ?_; (case hd => rfl); (case hg => rfl); (case hr => go_simp); intro gs hg w6 hbox hb; have n0 := aM (below_step HB.out hb); have n1 := aM (blk_below (g := gb) (o := .cells #[.slice A0_0 l0_0.length c0_0, .slice A0_1 l0_1.length c0_1] 31 (0, 0)) BK.out hb); clear HB BK; have HB := n0; have BK := n1; have BS := aM hbox; have hy0 : w6.cell? ⟨gs, 0, none⟩ = some (.int .i64 (i : Int)) := (blk_cell hbox 0).trans rfl; have hy1 : w6.cell? ⟨gs, 1, none⟩ = some (.int .i64 a2_1) := (blk_cell hbox 1).trans rfl; clear hb hbox hg n0 n1) | (go_at_call 46; (with_reducible refine (impl_in.calls (i : Int) 0 (wrap64 ((a1.size : Int) - 1)) true _ HA.out).mono ?_); rintro e w' ⟨rfl, ⟨nd, rfl⟩⟩; have n0 := aM (pw_below_drewN HB.out nd); have n1 := aM (blk_drewN BK.out nd); have n2 := aM (blk_drewN BS.out nd); clear HB BK BS hy0 hy1; have HB := n0; have BK := n1; have BS := n2; clear n0 n1 n2; generalize w6.drewN nd = w7 at HB BK BS ⊢; have hlg : gb < w7.heap.size := blk_lt (g := gb) (o := .cells #[.slice A0_0 l0_0.length c0_0, .slice A0_1 l0_1.length c0_1] 31 (0, 0)) BK.out; have hls : gs < w7.heap.size := blk_lt (g := gs) (o := .cells #[.int .i64 (i : Int), .int .i64 a2_1] 62 (0, 0)) BS.out; have hy0 : w7.cell? ⟨gs, 0, none⟩ = some (.int .i64 (i : Int)) := (blk_cell BS.out 0).trans rfl; have hy1 : w7.cell? ⟨gs, 1, none⟩ = some (.int .i64 a2_1) := (blk_cell BS.out 1).trans rfl; obtain ⟨W1, cap, hconv, hbel, hfz, hci, hback⟩ := impl_Bolts_slid.conv w7 a1 i HI.out v; rw [HO.out] at hback; rw [← HBB.out] at hci; have hz0 : W1.cell? ⟨gs, 0, none⟩ = some (.int .i64 (i : Int)) := (hbel.cell (p := ⟨gs, 0, none⟩) hls).trans ((blk_cell BS.out 0).trans rfl); have hz1 : W1.cell? ⟨gs, 1, none⟩ = some (.int .i64 a2_1) := (hbel.cell (p := ⟨gs, 1, none⟩) hls).trans ((blk_cell BS.out 1).trans rfl); have HB2 := aM (show Below w.heap.size w ((W1.setCell ⟨w7.heap.size, i, none⟩ (.int .u8 (v.toNat : Int))).drew) from below_drew1 ((below_step HB.out hbel).setCell HB.out.size _)); have HK2 := aM (show ((W1.setCell ⟨w7.heap.size, i, none⟩ (.int .u8 (v.toNat : Int))).drew).heap[gb]? = some (.cells #[.slice A0_0 l0_0.length c0_0, .slice A0_1 l0_1.length c0_1] 31 (0, 0)) from blk_drew (blk_far (blk_below (g := gb) (o := .cells #[.slice A0_0 l0_0.length c0_0, .slice A0_1 l0_1.length c0_1] 31 (0, 0)) BK.out hbel) (Nat.ne_of_lt hlg) _)); have hv1 := HV.out.1; have hv2 := HV.out.2; have hv3 := HVM.out; clear hbel HB BK BS hlg hls))
     go_region
     have hq0 : ((W1.setCell ⟨w7.heap.size, i, none⟩ (.int .u8 (v.toNat : Int))).drew).cell? ⟨gb, 0, none⟩ = some (.slice A0_0 l0_0.length c0_0) := (blk_cell HK2.out 0).trans rfl
     have hq1 : ((W1.setCell ⟨w7.heap.size, i, none⟩ (.int .u8 (v.toNat : Int))).drew).cell? ⟨gb, 1, none⟩ = some (.slice A0_1 l0_1.length c0_1) := (blk_cell HK2.out 1).trans rfl
     generalize (W1.setCell ⟨w7.heap.size, i, none⟩ (.int .u8 (v.toNat : Int))).drew = w8 at hback HB2 HK2 hq0 hq1 ⊢
     go_wp2_with (first | (go_at_call 63; (with_reducible refine (impl_Bolts_isState.calls k A0_0 c0_0 l0_0 A0_1 c0_1 l0_1 out true _ (Kd.C_below HR0.out HB2.out) HC0.out (Kd.C_below HR1.out HB2.out) HC1.out HA3.out).mono ?_); rintro e w9 ⟨rfl, hb⟩; have HB9 := aM (below_step HB2.out hb); have BK9 := aM (blk_below (g := gb) (o := .cells #[.slice A0_0 l0_0.length c0_0, .slice A0_1 l0_1.length c0_1] 31 (0, 0)) HK2.out hb); have hx0 : w9.cell? ⟨gb, 0, none⟩ = some (.slice A0_0 l0_0.length c0_0) := (blk_cell BK9.out 0).trans rfl; have hx1 : w9.cell? ⟨gb, 1, none⟩ = some (.slice A0_1 l0_1.length c0_1) := (blk_cell BK9.out 1).trans rfl; clear hb) | (go_at_call 55; (with_reducible refine (impl_Bolts_allowed.calls k A0_0 c0_0 l0_0 A0_1 c0_1 l0_1 out bb w9 (Kd.C_below HR0.out HB9.out) HC0.out (Kd.C_below HR1.out HB9.out) HC1.out HA4.out).mono ?_); rintro e w10 ⟨rfl, hb⟩; have HB10 := aM (below_step HB9.out hb); clear hb))
     go_ret2
     exact ⟨rfl, HB10.out⟩
   | false =>
    cases a with
    | false =>
     have h := HH.out
     rw [if_neg (by simp)] at h
     simp only [Option.some.injEq, Prod.mk.injEq] at h
     obtain ⟨rfl, rfl⟩ := h
     go_enter Try.func36, Try.ntmps36
     go_wp2_with (first | ((with_reducible refine gate_dst (N := 3) rfl ?_); refine box_event ?hg (N := 3) ?hd (cs := #[.slice A0_0 l0_0.length c0_0, .slice A0_1 l0_1.length c0_1]) (t := 31) ?hr ?_; (case hd => rfl); (case hg => rfl); (case hr => go_simp); intro gb hg w5 hbox hb; have HB := aM hb; have BK := aM hbox; have GE := aM (show w.heap.size ≤ gb by rw [hg]; exact Nat.le_refl _); clear hb hbox hg) | ((with_reducible refine gate_dst (N := 5) rfl ?_); refine box_event ?hg (N := 5) ?hd (cs := #[.int .i64 (i : Int), .int .i64 a2_1]) (t := 62) ?hr ?_; (case hd => rfl); (case hg => rfl); (case hr => go_simp); intro gs hg w6 hbox hb; have n0 := aM (below_step HB.out hb); have n1 := aM (blk_below (g := gb) (o := .cells #[.slice A0_0 l0_0.length c0_0, .slice A0_1 l0_1.length c0_1] 31 (0, 0)) BK.out hb); clear HB BK; have HB := n0; have BK := n1; have BS := aM hbox; have hy0 : w6.cell? ⟨gs, 0, none⟩ = some (.int .i64 (i : Int)) := (blk_cell hbox 0).trans rfl; have hy1 : w6.cell? ⟨gs, 1, none⟩ = some (.int .i64 a2_1) := (blk_cell hbox 1).trans rfl; clear hb hbox hg n0 n1) | (go_at_call 46; (with_reducible refine (impl_in.calls (i : Int) 0 (wrap64 ((a1.size : Int) - 1)) true _ HA.out).mono ?_); rintro e w' ⟨rfl, ⟨nd, rfl⟩⟩; have n0 := aM (pw_below_drewN HB.out nd); have n1 := aM (blk_drewN BK.out nd); have n2 := aM (blk_drewN BS.out nd); clear HB BK BS hy0 hy1; have HB := n0; have BK := n1; have BS := n2; clear n0 n1 n2; generalize w6.drewN nd = w7 at HB BK BS ⊢; have hlg : gb < w7.heap.size := blk_lt (g := gb) (o := .cells #[.slice A0_0 l0_0.length c0_0, .slice A0_1 l0_1.length c0_1] 31 (0, 0)) BK.out; have hls : gs < w7.heap.size := blk_lt (g := gs) (o := .cells #[.int .i64 (i : Int), .int .i64 a2_1] 62 (0, 0)) BS.out; have hy0 : w7.cell? ⟨gs, 0, none⟩ = some (.int .i64 (i : Int)) := (blk_cell BS.out 0).trans rfl; have hy1 : w7.cell? ⟨gs, 1, none⟩ = some (.int .i64 a2_1) := (blk_cell BS.out 1).trans rfl; obtain ⟨W1, cap, hconv, hbel, hfz, hci, hback⟩ := impl_Bolts_slid.conv w7 a1 i HI.out v; rw [HO.out] at hback; rw [← HBB.out] at hci; have hz0 : W1.cell? ⟨gs, 0, none⟩ = some (.int .i64 (i : Int)) := (hbel.cell (p := ⟨gs, 0, none⟩) hls).trans ((blk_cell BS.out 0).trans rfl); have hz1 : W1.cell? ⟨gs, 1, none⟩ = some (.int .i64 a2_1) := (hbel.cell (p := ⟨gs, 1, none⟩) hls).trans ((blk_cell BS.out 1).trans rfl); have HB2 := aM (show Below w.heap.size w ((W1.setCell ⟨w7.heap.size, i, none⟩ (.int .u8 (v.toNat : Int))).drew) from below_drew1 ((below_step HB.out hbel).setCell HB.out.size _)); have HK2 := aM (show ((W1.setCell ⟨w7.heap.size, i, none⟩ (.int .u8 (v.toNat : Int))).drew).heap[gb]? = some (.cells #[.slice A0_0 l0_0.length c0_0, .slice A0_1 l0_1.length c0_1] 31 (0, 0)) from blk_drew (blk_far (blk_below (g := gb) (o := .cells #[.slice A0_0 l0_0.length c0_0, .slice A0_1 l0_1.length c0_1] 31 (0, 0)) BK.out hbel) (Nat.ne_of_lt hlg) _)); have hv1 := HV.out.1; have hv2 := HV.out.2; have hv3 := HVM.out; clear hbel HB BK BS hlg hls))
     go_region
     have hq0 : ((W1.setCell ⟨w7.heap.size, i, none⟩ (.int .u8 (v.toNat : Int))).drew).cell? ⟨gb, 0, none⟩ = some (.slice A0_0 l0_0.length c0_0) := (blk_cell HK2.out 0).trans rfl
     have hq1 : ((W1.setCell ⟨w7.heap.size, i, none⟩ (.int .u8 (v.toNat : Int))).drew).cell? ⟨gb, 1, none⟩ = some (.slice A0_1 l0_1.length c0_1) := (blk_cell HK2.out 1).trans rfl
     generalize (W1.setCell ⟨w7.heap.size, i, none⟩ (.int .u8 (v.toNat : Int))).drew = w8 at hback HB2 HK2 hq0 hq1 ⊢
     go_wp2_with (first | (go_at_call 63; (with_reducible refine (impl_Bolts_isState.calls k A0_0 c0_0 l0_0 A0_1 c0_1 l0_1 out false _ (Kd.C_below HR0.out HB2.out) HC0.out (Kd.C_below HR1.out HB2.out) HC1.out HA3.out).mono ?_); rintro e w9 ⟨rfl, hb⟩; have HB9 := aM (below_step HB2.out hb); have BK9 := aM (blk_below (g := gb) (o := .cells #[.slice A0_0 l0_0.length c0_0, .slice A0_1 l0_1.length c0_1] 31 (0, 0)) HK2.out hb); have hx0 : w9.cell? ⟨gb, 0, none⟩ = some (.slice A0_0 l0_0.length c0_0) := (blk_cell BK9.out 0).trans rfl; have hx1 : w9.cell? ⟨gb, 1, none⟩ = some (.slice A0_1 l0_1.length c0_1) := (blk_cell BK9.out 1).trans rfl; clear hb))
     go_ret2
     exact ⟨rfl, HB9.out⟩
    | true =>
     have h := HH.out
     rw [if_pos rfl] at h
     obtain ⟨bb, A4_, h⟩ := Option.bind_eq_some_iff.mp h
     simp only [Option.some.injEq, Prod.mk.injEq] at h
     obtain ⟨rfl, rfl⟩ := h
     have HA4 := aM A4_
     clear A4_
     go_enter Try.func36, Try.ntmps36
     go_wp2_with (first | ((with_reducible refine gate_dst (N := 3) rfl ?_); refine box_event ?hg (N := 3) ?hd (cs := #[.slice A0_0 l0_0.length c0_0, .slice A0_1 l0_1.length c0_1]) (t := 31) ?hr ?_; (case hd => rfl); (case hg => rfl); (case hr => go_simp); intro gb hg w5 hbox hb; have HB := aM hb; have BK := aM hbox; have GE := aM (show w.heap.size ≤ gb by rw [hg]; exact Nat.le_refl _); clear hb hbox hg) | ((with_reducible refine gate_dst (N := 5) rfl ?_); refine box_event ?hg (N := 5) ?hd (cs := #[.int .i64 (i : Int), .int .i64 a2_1]) (t := 62) ?hr ?_; (case hd => rfl); (case hg => rfl); (case hr => go_simp); intro gs hg w6 hbox hb; have n0 := aM (below_step HB.out hb); have n1 := aM (blk_below (g := gb) (o := .cells #[.slice A0_0 l0_0.length c0_0, .slice A0_1 l0_1.length c0_1] 31 (0, 0)) BK.out hb); clear HB BK; have HB := n0; have BK := n1; have BS := aM hbox; have hy0 : w6.cell? ⟨gs, 0, none⟩ = some (.int .i64 (i : Int)) := (blk_cell hbox 0).trans rfl; have hy1 : w6.cell? ⟨gs, 1, none⟩ = some (.int .i64 a2_1) := (blk_cell hbox 1).trans rfl; clear hb hbox hg n0 n1) | (go_at_call 46; (with_reducible refine (impl_in.calls (i : Int) 0 (wrap64 ((a1.size : Int) - 1)) true _ HA.out).mono ?_); rintro e w' ⟨rfl, ⟨nd, rfl⟩⟩; have n0 := aM (pw_below_drewN HB.out nd); have n1 := aM (blk_drewN BK.out nd); have n2 := aM (blk_drewN BS.out nd); clear HB BK BS hy0 hy1; have HB := n0; have BK := n1; have BS := n2; clear n0 n1 n2; generalize w6.drewN nd = w7 at HB BK BS ⊢; have hlg : gb < w7.heap.size := blk_lt (g := gb) (o := .cells #[.slice A0_0 l0_0.length c0_0, .slice A0_1 l0_1.length c0_1] 31 (0, 0)) BK.out; have hls : gs < w7.heap.size := blk_lt (g := gs) (o := .cells #[.int .i64 (i : Int), .int .i64 a2_1] 62 (0, 0)) BS.out; have hy0 : w7.cell? ⟨gs, 0, none⟩ = some (.int .i64 (i : Int)) := (blk_cell BS.out 0).trans rfl; have hy1 : w7.cell? ⟨gs, 1, none⟩ = some (.int .i64 a2_1) := (blk_cell BS.out 1).trans rfl; obtain ⟨W1, cap, hconv, hbel, hfz, hci, hback⟩ := impl_Bolts_slid.conv w7 a1 i HI.out v; rw [HO.out] at hback; rw [← HBB.out] at hci; have hz0 : W1.cell? ⟨gs, 0, none⟩ = some (.int .i64 (i : Int)) := (hbel.cell (p := ⟨gs, 0, none⟩) hls).trans ((blk_cell BS.out 0).trans rfl); have hz1 : W1.cell? ⟨gs, 1, none⟩ = some (.int .i64 a2_1) := (hbel.cell (p := ⟨gs, 1, none⟩) hls).trans ((blk_cell BS.out 1).trans rfl); have HB2 := aM (show Below w.heap.size w ((W1.setCell ⟨w7.heap.size, i, none⟩ (.int .u8 (v.toNat : Int))).drew) from below_drew1 ((below_step HB.out hbel).setCell HB.out.size _)); have HK2 := aM (show ((W1.setCell ⟨w7.heap.size, i, none⟩ (.int .u8 (v.toNat : Int))).drew).heap[gb]? = some (.cells #[.slice A0_0 l0_0.length c0_0, .slice A0_1 l0_1.length c0_1] 31 (0, 0)) from blk_drew (blk_far (blk_below (g := gb) (o := .cells #[.slice A0_0 l0_0.length c0_0, .slice A0_1 l0_1.length c0_1] 31 (0, 0)) BK.out hbel) (Nat.ne_of_lt hlg) _)); have hv1 := HV.out.1; have hv2 := HV.out.2; have hv3 := HVM.out; clear hbel HB BK BS hlg hls))
     go_region
     have hq0 : ((W1.setCell ⟨w7.heap.size, i, none⟩ (.int .u8 (v.toNat : Int))).drew).cell? ⟨gb, 0, none⟩ = some (.slice A0_0 l0_0.length c0_0) := (blk_cell HK2.out 0).trans rfl
     have hq1 : ((W1.setCell ⟨w7.heap.size, i, none⟩ (.int .u8 (v.toNat : Int))).drew).cell? ⟨gb, 1, none⟩ = some (.slice A0_1 l0_1.length c0_1) := (blk_cell HK2.out 1).trans rfl
     generalize (W1.setCell ⟨w7.heap.size, i, none⟩ (.int .u8 (v.toNat : Int))).drew = w8 at hback HB2 HK2 hq0 hq1 ⊢
     go_wp2_with (first | (go_at_call 63; (with_reducible refine (impl_Bolts_isState.calls k A0_0 c0_0 l0_0 A0_1 c0_1 l0_1 out true _ (Kd.C_below HR0.out HB2.out) HC0.out (Kd.C_below HR1.out HB2.out) HC1.out HA3.out).mono ?_); rintro e w9 ⟨rfl, hb⟩; have HB9 := aM (below_step HB2.out hb); have BK9 := aM (blk_below (g := gb) (o := .cells #[.slice A0_0 l0_0.length c0_0, .slice A0_1 l0_1.length c0_1] 31 (0, 0)) HK2.out hb); have hx0 : w9.cell? ⟨gb, 0, none⟩ = some (.slice A0_0 l0_0.length c0_0) := (blk_cell BK9.out 0).trans rfl; have hx1 : w9.cell? ⟨gb, 1, none⟩ = some (.slice A0_1 l0_1.length c0_1) := (blk_cell BK9.out 1).trans rfl; clear hb) | (go_at_call 55; (with_reducible refine (impl_Bolts_allowed.calls k A0_0 c0_0 l0_0 A0_1 c0_1 l0_1 out bb w9 (Kd.C_below HR0.out HB9.out) HC0.out (Kd.C_below HR1.out HB9.out) HC1.out HA4.out).mono ?_); rintro e w10 ⟨rfl, hb⟩; have HB10 := aM (below_step HB9.out hb); clear hb))
     go_ret2
     exact ⟨rfl, HB10.out⟩

end Go.Proofs.Ytehhfcbhoaocdaa.PP
