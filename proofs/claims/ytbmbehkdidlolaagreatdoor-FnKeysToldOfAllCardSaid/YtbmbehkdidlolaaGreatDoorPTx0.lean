-- written by a program of this session's (wip/tools), over the kit's print
import Derived.Test.YtbmbehkdidlolaaGreatDoorProg
import Derived.Below
import Derived.Deep.Draws
import Derived.Deep.AppendLies
import Derived.Maps.AppendAt
import Derived.OwnWalk
import Derived.Laws.BytesArg
import Derived.Laws.MakeOwn
import Derived.Laws.OwnMore
import Derived.Deep.OwnRows
import Derived.Tactics
import Derived.Lib.ConvBytes
import Derived.Laws.Slices
import Derived.WalkKit
import Derived.KernelRfl
import Derived.RowKit3
import Derived.Deep.LoopGhost
import Derived.Deep.QuietTactic
import Derived.BigQuiet
import Derived.WideLaws
import Derived.Deep.DeepCutAuto
import Derived.Deep.CutBlock
import Derived.Deep.RegionHeld3
import Derived.Laws.Rows
import Derived.Lib.AppendStr
import Derived.ArgAppend
import Derived.Laws.IdiomCopy
import Derived.OrdersHeld
import Derived.Laws.BitsLemmas
import Derived.RowKit
import Derived.Test.YtbmbehkdidlolaaGreatDoorShelf
import Derived.Test.YtbmbehkdidlolaaGreatDoorLibOne
import Derived.Shelf.Abstract
import Derived.Lib.OthersKept
import Derived.Test.YtbmbehkdidlolaaGreatDoorMapS
import Derived.Test.YtbmbehkdidlolaaGreatDoorMapB
import Derived.Test.YtbmbehkdidlolaaGreatDoorWWords
import Derived.Test.YtbmbehkdidlolaaGreatDoorWLast
import Derived.Test.YtbmbehkdidlolaaGreatDoorWTab
import Derived.Test.YtbmbehkdidlolaaGreatDoorWFour
import Derived.Test.YtbmbehkdidlolaaGreatDoorWQPut
import Derived.Test.YtbmbehkdidlolaaGreatDoorWApart
import Derived.Test.YtbmbehkdidlolaaGreatDoorWArr
import Derived.Test.YtbmbehkdidlolaaGreatDoorWZeros
import Derived.Test.YtbmbehkdidlolaaGreatDoorWFoot
import Derived.Test.YtbmbehkdidlolaaGreatDoorWKept
import Derived.Test.YtbmbehkdidlolaaGreatDoorWShare
import Derived.Test.YtbmbehkdidlolaaGreatDoorWN
import Derived.Test.YtbmbehkdidlolaaGreatDoorWFootNe
import Derived.Test.YtbmbehkdidlolaaGreatDoorWAt
import Derived.Test.YtbmbehkdidlolaaGreatDoorWEqStruct
import Derived.Test.YtbmbehkdidlolaaGreatDoorWRepsOne
import Derived.Test.YtbmbehkdidlolaaGreatDoorWInv
import Derived.Test.YtbmbehkdidlolaaGreatDoorWInvWords
import Derived.Test.YtbmbehkdidlolaaGreatDoorWGuard
import Derived.Test.YtbmbehkdidlolaaGreatDoorWNEv
import Derived.Test.YtbmbehkdidlolaaGreatDoorWMore
-- squeezed
-- squeezed twice
namespace Go.Proofs.YtbmbehkdidlolaaGreatDoor.PT
open Go.RowKit Go.Proofs.YtbmbehkdidlolaaGreatDoorW.PrintWords Go.Proofs.YtbmbehkdidlolaaGreatDoorW.PrintLast Go.Proofs.YtbmbehkdidlolaaGreatDoorW.PrintMore
attribute [local go_sem] max2_int min2_int max_two min_two max_three min_three max_four min_four   -- for this text's walks alone
set_option linter.unusedVariables false
set_option linter.unusedSimpArgs false



def errW : Option Int → Value
 | none => .nilIface
 | some c => .iface 0 (.int .i64 c)
theorem errW_none : errW none = .nilIface := rfl
theorem errW_some (c : Int) : errW (some c) = .iface 0 (.int .i64 c) := rfl

theorem info3 : (Tryz.prog.info? 3).map (fun i => (i.zero, i.size, i.bytes)) = some (some (.int .i64 0), 1, 8) := by kernel_rfl
theorem info4 : (Tryz.prog.info? 4).map (fun i => (i.zero, i.size, i.bytes)) = some (some (.bool false), 1, 1) := by kernel_rfl
theorem info5 : (Tryz.prog.info? 5).map (fun i => (i.zero, i.size, i.bytes)) = some (some (.int .u8 0), 1, 1) := by kernel_rfl
theorem info9 : (Tryz.prog.info? 9).map (fun i => (i.zero, i.size, i.bytes)) = some (some (.string ⟨#[]⟩), 1, 16) := by kernel_rfl
theorem info36 : (Tryz.prog.info? 36).map (fun i => (i.zero, i.size, i.bytes)) = some (some (.slice none 0 0), 1, 24) := by kernel_rfl
-- the values' own types
def rd_L2 (xs : List (List Int)) (i : Int) : (List Int) := xs.getD i.toNat ([] : List Int)
theorem at_L2 {w : World} {A : Option Addr} {n : Nat} {xs : List (List Int)} (h : Kd.C (Kd.slice 3 (Kd.int .i64)) w A n xs) (i : Int) (h0 : 0 ≤ i) (h1 : i < n) : ∃ ad A0 c0, A = some ad ∧ w.cell? (ad.add i.toNat) = some (.slice A0 (rd_L2 xs i).length c0) ∧ (rd_L2 xs i).length ≤ c0 ∧ (Kd.int .i64).C w A0 (rd_L2 xs i).length (rd_L2 xs i) := by
 obtain ⟨ad, c, e, _, hK, hc0⟩ := Kd.C_get h ([] : List Int) i h0 h1
 have hc : ∀ j u, c[j]? = some u → w.cell? (ad.add (i.toNat * 1 + j)) = some u := hc0
 obtain ⟨A0, c0, rfl, l0, g0⟩ := hK
 exact ⟨ad, A0, c0, e, by have hq := hc 0 _ rfl; rwa [Nat.mul_one, Nat.add_zero] at hq, l0, g0⟩

theorem sA {α : Type} (l : List α) (i : Nat) (a : α) : l.toArray.setIfInBounds i a = (l.set i a).toArray := List.setIfInBounds_toArray l i a
theorem sB {α : Type} {x : α} {xs : List α} {a : α} : (x :: xs).set 0 a = a :: xs := List.set_cons_zero
theorem sC {α : Type} {x : α} {xs : List α} {n : Nat} {a : α} : (x :: xs).set (n + 1) a = x :: xs.set n a := List.set_cons_succ
abbrev aM {p : Prop} (h : p) : Aside0 p := Aside0.mk h
abbrev T := true
abbrev F := false
abbrev bA := @below_alloc
abbrev bN := @pw_below_drewN
abbrev bD := @below_drew1
abbrev bS := @below_set
abbrev rA := @Kd.R_alloc
abbrev rN := @Kd.R_drewN
abbrev rD := @Kd.R_drew
abbrev cA := @Kd.C_alloc
abbrev cN := @Kd.C_drewN
abbrev cD := @Kd.C_drew
abbrev kN := @blk_drewN
abbrev kD := @blk_drew
abbrev kA := @blk_alloc
theorem mA {α β : Type} {f : α → β} {l : List α} : l.toArray.map f = (l.map f).toArray := List.map_toArray
theorem mB {α β : Type} {f : α → β} {a : α} {l : List α} : (a :: l).map f = f a :: l.map f := List.map_cons
theorem mC {α β : Type} {f : α → β} : ([] : List α).map f = [] := List.map_nil
theorem oT {p : Prop} [Decidable p] (h : decide p = true) : p := of_decide_eq_true h
theorem iN {α : Type} {c : Prop} [Decidable c] {x : Option α} {r : α} (h : (if c then x else none) = some r) : decide c = true ∧ x = some r := by
 by_cases hc : c
 · rw [if_pos hc] at h; exact ⟨decide_eq_true hc, h⟩
 · rw [if_neg hc] at h; cases h
theorem iF {α : Type} {c : Prop} [Decidable c] {x : Option α} {r : α} (h : (if c then none else x) = some r) : decide c = false ∧ x = some r := by
 by_cases hc : c
 · rw [if_pos hc] at h; cases h
 · rw [if_neg hc] at h; exact ⟨decide_eq_false hc, h⟩
theorem iC {α : Type} {c : Prop} [Decidable c] {x : Option α} {r : α} (h : (if c then x else none) = some r) : c ∧ x = some r := ⟨of_decide_eq_true (iN h).1, (iN h).2⟩
theorem iR {α : Type} {c : Prop} [Decidable c] {x : Option α} {r : α} (h : (if c then x else none) = some r) : c = True ∧ x = some r := ⟨eq_true (iC h).1, (iN h).2⟩
theorem iD {α : Type} {c : Prop} [Decidable c] {x : Option α} {r : α} (h : (if c then none else x) = some r) : ¬ c ∧ x = some r := ⟨of_decide_eq_false (iF h).1, (iF h).2⟩
theorem iT {α : Type} {c : Prop} [Decidable c] {x : Option α} {r : α} (h : (if c then x else none) = some r) : c = True ∧ decide c = true ∧ x = some r := ⟨(iR h).1, iN h⟩
theorem iU {α : Type} {c : Prop} [Decidable c] {x : Option α} {r : α} (h : (if c then none else x) = some r) : c = False ∧ decide c = false ∧ x = some r := ⟨eq_false (iD h).1, iF h⟩
theorem iO {α : Type} {c : Prop} [Decidable c] {x y : Option α} {r : α} (h : (if c then x else y) = some r) : (c ∧ x = some r) ∨ (¬ c ∧ y = some r) := by
 by_cases hc : c
 · rw [if_pos hc] at h; exact .inl ⟨hc, h⟩
 · rw [if_neg hc] at h; exact .inr ⟨hc, h⟩
theorem iE {α : Type} {c : Prop} [Decidable c] {x y : Option α} {r : α} (h : (if c then x else y) = some r) : (decide c = true ∧ x = some r) ∨ (decide c = false ∧ y = some r) := (iO h).imp (fun k => ⟨decide_eq_true k.1, k.2⟩) (fun k => ⟨decide_eq_false k.1, k.2⟩)
theorem jT {α : Type} {x y : Option α} {r : α} (h : (if true = true then x else y) = some r) : x = some r := by rw [if_pos rfl] at h; exact h
theorem jF {α : Type} {x y : Option α} {r : α} (h : (if false = true then x else y) = some r) : y = some r := by rw [if_neg (by decide)] at h; exact h
theorem jS {α β : Type} {x : Option α} {f : α → Option β} {r : β} (h : x.bind f = some r) : ∃ a, Aside0 (x = some a) ∧ f a = some r := by
 obtain ⟨a, h1, h2⟩ := Option.bind_eq_some_iff.mp h
 exact ⟨a, ⟨h1⟩, h2⟩
theorem jY {α β : Type} {x : α} {f : α → Option β} {r : β} (h : (some x).bind f = some r) : ∃ a, Aside0 (a = x) ∧ f a = some r := ⟨x, ⟨rfl⟩, h⟩
theorem yG {α : Type} (x : α) : ∃ y, Aside0 (y = x) ∧ y = x := ⟨x, ⟨rfl⟩, rfl⟩
theorem rQ {p q : Prop} (h : q) (g : q → p := by intro h_; (with_reducible repeat (first | apply rA | apply rN | apply rD)); exact h_) : p := g h
theorem bQ {p : Prop} (h : p := by repeat (first | (with_reducible first | exact HB.out | apply bA | apply bN | apply bD) | exact HB.out)) : p := h
theorem oD {p : Prop} [Decidable p] (h : decide p = true := by first | (with_reducible assumption) | assumption) : p := of_decide_eq_true h
theorem aZ {A : Option Addr} {w : World} {i n : Int} {v : Value} (f : 0 ≤ i → i < n → ∃ ad, A = some ad ∧ w.cell? (ad.add i.toNat) = some v) (h0 : decide (0 ≤ i) = true := by first | (with_reducible assumption) | assumption) (h1 : decide (i < n) = true := by first | (with_reducible assumption) | assumption) : ∃ ad, A = some ad ∧ w.cell? (ad.add i.toNat) = some v ∧ (0 ≤ i) = True ∧ (i < n) = True := by
 obtain ⟨ad, h, k⟩ := f (of_decide_eq_true h0) (of_decide_eq_true h1)
 exact ⟨ad, h, k, eq_true (of_decide_eq_true h0), eq_true (of_decide_eq_true h1)⟩
theorem aY {g : Nat} {w : World} {i n : Int} {v : Value} (f : 0 ≤ i → i < n → ∃ ad, (some ⟨g, 0, none⟩ : Option Addr) = some ad ∧ w.cell? (ad.add i.toNat) = some v) (h0 : decide (0 ≤ i) = true := by first | (with_reducible assumption) | assumption) (h1 : decide (i < n) = true := by first | (with_reducible assumption) | assumption) : w.cell? ⟨g, i.toNat, none⟩ = some v ∧ (0 ≤ i) = True ∧ (i < n) = True := by
 obtain ⟨ad, h, k⟩ := f (of_decide_eq_true h0) (of_decide_eq_true h1)
 cases h
 rw [add_plain] at k
 exact ⟨k, eq_true (of_decide_eq_true h0), eq_true (of_decide_eq_true h1)⟩
theorem aC {i n : Int} {a b : Prop} (f : 0 ≤ i → i < n → a ∧ b) (h0 : decide (0 ≤ i) = true := by first | (with_reducible assumption) | assumption) (h1 : decide (i < n) = true := by first | (with_reducible assumption) | assumption) : a ∧ b ∧ (0 ≤ i) = True ∧ (i < n) = True := by
 obtain ⟨h, k⟩ := f (of_decide_eq_true h0) (of_decide_eq_true h1)
 exact ⟨h, k, eq_true (of_decide_eq_true h0), eq_true (of_decide_eq_true h1)⟩
theorem dR {α : Type} {d : Kd α} {e base n : Nat} {ok : Nat → Prop} {v : Value} {xs : List α} {w w1 : World} (k : World.drewN w n = w1) (h : Aside0 (Kd.R d e w base ok v xs)) : Aside0 (Kd.R d e w1 base ok v xs) := by
 subst k
 exact ⟨Kd.R_drewN h.out n⟩
theorem dB {w w0 w1 : World} {n : Nat} (k : World.drewN w n = w1) (h : Aside0 (Below w0.heap.size w0 w)) : Aside0 (Below w0.heap.size w0 w1) := by
 subst k
 exact ⟨pw_below_drewN h.out n⟩
theorem gC {P : Program} {ops : Array Oper} {rest : List Oper} {o : Oper} {a : Act} {Q : Exit → Act → World → Prop} {W : World} (f : FuncId) {xs : Array Operand} {ts : Array TypeId} (_ho : o.op = .call { callee := .value (.func f), args := xs, argTypes := ts }) (h : wpList P ops Q (o :: rest) a W) : wpList P ops Q (o :: rest) a W := h
theorem gL {P : Program} {ops : Array Oper} {rest : List Oper} {oi : Oper} {a : Act} {Q : Exit → Act → World → Prop} {w : World} (N : Option Tmp) {f : FuncId} {fn : Func} {xs : Array Operand} {ts : Array TypeId} (hf : P.funcs[f]? = some fn) (args : Array Value)
  (h : Calls P f args w fun e w' => ∃ v, e = .returned v ∧ wpList P ops Q rest (a.put N v) w') (hd : oi.dst = N := by exact rfl) (hg : oi.guard = none := by exact rfl) (hname : (fn.name == "runtime.NumGoroutine") = false := by kernel_rfl) (hb : fn.body.isSome = true := by exact rfl)
  (hop : oi.op = .call { callee := .value (.func f), args := xs, argTypes := ts } := by exact rfl) (hargs : xs.map a.eval = args := by (try simp only [List.map_toArray, List.map_cons, List.map_nil]); first | done | rfl | (simp only [List.length_drop, List.length_take]; rfl)) : wpList P ops Q (oi :: rest) a w := goesL_ N hd hg hf hname hb args hop hargs h
theorem pU {P : Program} {ops : Array Oper} {Q : Exit → Act → World → Prop} {md : Region.Mode} {S : World → Prop} {ds : List Nat} {T : Bool × List (List Nat × List Nat)} {oi : Oper} {v : Value} {fuel : Nat} {l : Array Bool} {a a' : Act} {w : World} (i : Nat) (N : Option Tmp) (l' : Array Bool) (hT : Aside0 (rtab md ops = T))
  (h : wpAnyLast P md ops Q S ds fuel l' a' w) (hi : ops[i]? = some oi := by exact rfl) (hN : oi.dst = N := by exact rfl) (hc : anyT T l.toList l'.toList i = true := by kernel_rfl) (hQ : ∀ c a w, Q (.panic c) (a.put oi.dst v) w → Q (.panic c) a w := by intro _ _ _ h; exact h)
  (hw : Region.wanted oi (yielded ops a.tmps) = true := by rfl) (hy : ∀ w, (execOp a.eval oi).run P w = .ok (.value v) w := by intro w'; go_simp; with_reducible rfl) (ha : a.put N v = a' := by simp only [Act.put, sA, sB, sC, i64_w, i32_w]; rfl) : wpAnyLast P md ops Q S ds (fuel + 1) l a w := pure_ l' hi hN (any_of hT.out hc) hQ (Or.inl ⟨hw, hy⟩) ha h
end Go.Proofs.YtbmbehkdidlolaaGreatDoor.PT
