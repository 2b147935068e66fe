/-
  Maps of texts to numbers, read as functions: what a look-up, a store and a making of one do.
-/
import Derived.Test.YtbmbehkdidlolaaGreatDoorWWords
import Derived.Test.YtbmbehkdidlolaaGreatDoorProg
import Derived.Maps.OwnSet
import Derived.Maps.OwnOps
import Derived.Maps.Views
import Derived.StringKeys
import Derived.KernelRfl
namespace Go.Proofs.YtbmbehkdidlolaaGreatDoor.MapS
open Go Go.RowKit Go.WideMaps Go.Maps
set_option linter.unusedVariables false

theorem law : Keyed Tryz.prog 9 := string_keyed Tryz.underlying9
theorem zero (w : World) : (zeroValue 3).run Tryz.prog w = .ok (.int .i64 0) w := by kernel_rfl
/-- The map in block b (of at most n keys) holds what f tells of texts. -/
def M (w : World) (b n : Nat) (f : ByteArray → Option Int) : Prop :=
  ∃ D : DataW Unit, w.ownsMap Tryz.prog 9 (plainElem Tryz.prog 3) b n D ∧ ∀ s : ByteArray, s.size ≤ maxLen → Maps.has D (.string s.data.toList) = (f s).isSome ∧ D.atKey (.string s.data.toList) (.lit (.int .i64 0)) = .lit (.int .i64 ((f s).getD 0))
/-- A function with one more text. -/
def upd (f : ByteArray → Option Int) (s : ByteArray) (c : Int) : ByteArray → Option Int := fun t => if t = s then some c else f t
theorem M_of_heap {w w' : World} {b n : Nat} {f : ByteArray → Option Int} (h : M w b n f) (e : w'.heap[b]? = w.heap[b]?) : M w' b n f := by
  obtain ⟨D, ⟨es, clock, hb, r⟩, hf⟩ := h
  exact ⟨D, ⟨es, clock, e.trans hb, r⟩, hf⟩
theorem M_drew {w : World} {b n : Nat} {f : ByteArray → Option Int} (h : M w b n f) : M w.drew b n f := M_of_heap h rfl
theorem M_drewN {w : World} {b n : Nat} {f : ByteArray → Option Int} (h : M w b n f) (k : Nat) : M (w.drewN k) b n f := M_of_heap h rfl
theorem M_lt {w : World} {b n : Nat} {f : ByteArray → Option Int} (h : M w b n f) : b < w.heap.size := by
  obtain ⟨D, ho, _⟩ := h
  exact ho.lt
theorem M_alloc {w : World} {b n : Nat} {f : ByteArray → Option Int} (h : M w b n f) (o : Obj) : M (w.alloc o) b n f := M_of_heap h (Below.heap_alloc w o b (M_lt h))
theorem M_set {w : World} {b n : Nat} {f : ByteArray → Option Int} (h : M w b n f) (a : Addr) (u : Value) (hne : b ≠ a.block) : M (w.setCell a u) b n f := M_of_heap h (Below.heap_setCell w a u b hne)
theorem M_below {w w' : World} {b n : Nat} {f : ByteArray → Option Int} (h : M w b n f) (hb : Below w.heap.size w w') : M w' b n f := M_of_heap h (hb.block b (M_lt h))
theorem M_grown {w w' : World} {row : Option Nat} {b n : Nat} {f : ByteArray → Option Int} (h : M w b n f) (hg : w.grownBy w' row) (hne : some b ≠ row) : M w' b n f := M_of_heap h (hg.block b (M_lt h) hne)
theorem M_made (w : World) : M (w.alloc (.map #[] 0)) w.heap.size 0 (fun _ => none) :=
  ⟨.map [], World.ownsMap_made w _ _ _, fun s _ => ⟨rfl, rfl⟩⟩
/-- 'm[s]'. -/
theorem M_look {w : World} {b n : Nat} {f : ByteArray → Option Int} (h : M w b n f) (s : ByteArray) (hs : s.size ≤ maxLen) : (Instr.lookup 83 (.map (some b)) (.string s) false).run Tryz.prog w = .ok (.int .i64 ((f s).getD 0)) w := by
  obtain ⟨D, ho, hf⟩ := h
  obtain ⟨c, hrun, hat, _⟩ := ho.lookup_int law Tryz.underlying83 Tryz.underlying3 (zero w) (keyOf_string_mk Tryz.underlying9 hs)
  have e : (f s).getD 0 = c := by
    have h := (hf s hs).2.symm.trans hat
    simp only [DataW.lit.injEq, Lit.int.injEq, true_and] at h
    exact h
  rw [e]
  exact hrun
/-- 'v, ok := m[s]'. -/
theorem M_look2 {w : World} {b n : Nat} {f : ByteArray → Option Int} (h : M w b n f) (s : ByteArray) (hs : s.size ≤ maxLen) : (Instr.lookup 83 (.map (some b)) (.string s) true).run Tryz.prog w = .ok (.tuple #[.int .i64 ((f s).getD 0), .bool (f s).isSome]) w := by
  obtain ⟨D, ho, hf⟩ := h
  obtain ⟨v, ps, hrun, hv⟩ := ho.look_ok law Tryz.underlying83 (zero w) (plainElem_int Tryz.underlying3 (by decide)) (keyOf_string_mk Tryz.underlying9 hs)
  obtain ⟨c, rfl, hc, _⟩ := plainElem_int_inv Tryz.underlying3 hv
  rw [(hf s hs).1] at hrun
  have hat : D.atKey (.string s.data.toList) (.lit (.int .i64 0)) = .lit (.int .i64 c) := (Prod.mk.inj hc).1
  have e : (f s).getD 0 = c := by
    have h := (hf s hs).2.symm.trans hat
    simp only [DataW.lit.injEq, Lit.int.injEq, true_and] at h
    exact h
  rw [e]
  exact hrun
/-- 'm[s] = c'. -/
theorem M_put {w : World} {b n : Nat} {f : ByteArray → Option Int} (h : M w b n f) (hn : n < maxLen) (s : ByteArray) (hs : s.size ≤ maxLen) (c : Int) (hc : (Lit.int .i64 c).wf = true) :
    ∃ w', (Instr.mapUpdate 83 (.map (some b)) (.string s) (.int .i64 c)).run Tryz.prog w = .ok () w' ∧ M w' b (n + 1) (upd f s c) ∧ w.grownBy w' (some b) := by
  obtain ⟨D, ho, hf⟩ := h
  obtain ⟨w', hrun, ho', hg⟩ := ho.update law Tryz.underlying83 hn (keyOf_string_mk Tryz.underlying9 hs) (plainElem_int Tryz.underlying3 hc)
  refine ⟨w', hrun, ⟨_, ho', fun t ht => ?_⟩, hg⟩
  unfold upd
  by_cases e : t = s
  · subst e
    rw [if_pos rfl]
    exact ⟨Maps.has_put_same ho.isMap (show WideAt.IsKeyLit (.string _) from trivial) _, Maps.atKey_put_same ho.isMap (show WideAt.IsKeyLit (.string _) from trivial) _ _⟩
  · have hne : (Lit.string t.data.toList) ≠ Lit.string s.data.toList := by
      intro h
      injection h with h
      exact e (ByteArray.ext (Array.toList_inj.1 h))
    rw [if_neg e, Maps.has_put_other hne, Maps.atKey_put_other hne]
    exact hf t ht
variable {ops : Array Oper} {rest : List Oper} {o : Oper} {a : Act} {w : World} {Q : Exit → Act → World → Prop} {b n : Nat} {f : ByteArray → Option Int} {s : ByteArray}
/-- 'm[s]' at the operation: the world stays. -/
theorem look_ (hM : M w b n f) (hs : s.size ≤ maxLen) (hg : o.guard = none) (m x : Operand) (hop : o.op = .lookup 83 m x false) (hm : a.eval m = .map (some b)) (hx : a.eval x = .string s)
    (hK : wpList Tryz.prog ops Q rest (a.put o.dst (.int .i64 ((f s).getD 0))) w) : wpList Tryz.prog ops Q (o :: rest) a w := by
  refine wpList_plain hg fun K' hK' => ?_
  have hrun := M_look hM s hs
  unfold Oper.wp
  simp [execOp, hop, hm, hx, hrun, Result.andThen]
  exact hK' _ _ hK
/-- 'v, ok := m[s]' at the operation. -/
theorem look2_ (hM : M w b n f) (hs : s.size ≤ maxLen) (hg : o.guard = none) (m x : Operand) (hop : o.op = .lookup 83 m x true) (hm : a.eval m = .map (some b)) (hx : a.eval x = .string s)
    (hK : wpList Tryz.prog ops Q rest (a.put o.dst (.tuple #[.int .i64 ((f s).getD 0), .bool (f s).isSome])) w) : wpList Tryz.prog ops Q (o :: rest) a w := by
  refine wpList_plain hg fun K' hK' => ?_
  have hrun := M_look2 hM s hs
  unfold Oper.wp
  simp [execOp, hop, hm, hx, hrun, Result.andThen]
  exact hK' _ _ hK
theorem look_v {e : Int} (hM : M w b n f) (he : (f s).getD 0 = e) (hs : s.size ≤ maxLen) (hg : o.guard = none) (m x : Operand) (hop : o.op = .lookup 83 m x false) (hm : a.eval m = .map (some b)) (hx : a.eval x = .string s)
    (hK : wpList Tryz.prog ops Q rest (a.put o.dst (.int .i64 e)) w) : wpList Tryz.prog ops Q (o :: rest) a w := look_ hM hs hg m x hop hm hx (he ▸ hK)
theorem look2_v {e : Int} {ok : Bool} (hM : M w b n f) (he : (f s).getD 0 = e) (hok : (f s).isSome = ok) (hs : s.size ≤ maxLen) (hg : o.guard = none) (m x : Operand) (hop : o.op = .lookup 83 m x true) (hm : a.eval m = .map (some b)) (hx : a.eval x = .string s)
    (hK : wpList Tryz.prog ops Q rest (a.put o.dst (.tuple #[.int .i64 e, .bool ok])) w) : wpList Tryz.prog ops Q (o :: rest) a w := look2_ hM hs hg m x hop hm hx (he ▸ hok ▸ hK)
theorem M_mono {n' : Nat} (h : M w b n f) (hn : n ≤ n') : M w b n' f := by
  obtain ⟨D, ho, hf⟩ := h
  exact ⟨D, ho.mono hn, hf⟩
/-- A block of cells is no map's. -/
theorem M_apart {g : Nat} {cs : Array Value} {t : TypeId} {z : Nat × Nat} (h : M w b n f) (hb : w.heap[g]? = some (.cells cs t z)) : g ≠ b := by
  rintro rfl
  obtain ⟨D, ⟨es, clock, hm, _⟩, _⟩ := h
  rw [hm] at hb
  cases hb
theorem min_wf {x : Int} (h : (Lit.int .i64 x).wf = true) : (Lit.int .i64 (min x 1000000000000001)).wf = true := by
  have e : min x 1000000000000001 = x ∨ min x 1000000000000001 = 1000000000000001 := by omega
  rcases e with e | e <;> rw [e]
  · exact h
  · decide
/-- 'm[s] = c' at the operation, in a literal of a map too. -/
theorem upd_ (hM : M w b n f) (hn : n < maxLen) (hs : s.size ≤ maxLen) {c : Int} (hc : (Lit.int .i64 c).wf = true) (hg : o.guard = none) (m x v : Operand) (hop : o.op = .mapUpdate 83 m x v ∨ o.op = .insert 83 m x v)
    (hm : a.eval m = .map (some b)) (hx : a.eval x = .string s) (hv : a.eval v = .int .i64 c)
    (hK : ∀ w', M w' b (n + 1) (upd f s c) → w.grownBy w' (some b) → wpList Tryz.prog ops Q rest (a.put o.dst undef) w') : wpList Tryz.prog ops Q (o :: rest) a w := by
  refine wpList_plain hg fun K' hK' => ?_
  obtain ⟨w', hrun, h1, h2⟩ := M_put hM hn s hs c hc
  unfold Oper.wp
  rcases hop with hop | hop <;> (simp [execOp, hop, hm, hx, hv, hrun, Result.andThen]; exact hK' _ _ (hK w' h1 h2))
end Go.Proofs.YtbmbehkdidlolaaGreatDoor.MapS
