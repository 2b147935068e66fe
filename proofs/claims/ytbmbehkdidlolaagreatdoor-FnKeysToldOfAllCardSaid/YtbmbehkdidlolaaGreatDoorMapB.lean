/-
  Maps of texts to truth values, read as functions: what a look-up and a store do.
-/
import Derived.Test.YtbmbehkdidlolaaGreatDoorWWords
import Derived.Test.YtbmbehkdidlolaaGreatDoorProg
import Derived.Maps.OwnSet
import Derived.Maps.OwnOps
import Derived.Maps.Views
import Derived.StringKeys
import Derived.KernelRfl
namespace Go.Proofs.YtbmbehkdidlolaaGreatDoor.MapB
open Go Go.RowKit Go.WideMaps Go.Maps
set_option linter.unusedVariables false

theorem law : Keyed Tryz.prog 9 := string_keyed Tryz.underlying9
theorem zero (w : World) : (zeroValue 4).run Tryz.prog w = .ok (.bool false) w := by kernel_rfl
/-- The map in block b (of at most n keys) holds what f tells of texts. -/
def M (w : World) (b n : Nat) (f : ByteArray → Bool) : Prop :=
  ∃ D : DataW Unit, w.ownsMap Tryz.prog 9 (plainElem Tryz.prog 4) b n D ∧ ∀ s : ByteArray, s.size ≤ maxLen → D.atKey (.string s.data.toList) (.lit (.bool false)) = .lit (.bool (f s))
/-- A function with one more text. -/
def upd (f : ByteArray → Bool) (s : ByteArray) : ByteArray → Bool := fun t => if t = s then true else f t
theorem M_of_heap {w w' : World} {b n : Nat} {f : ByteArray → Bool} (h : M w b n f) (e : w'.heap[b]? = w.heap[b]?) : M w' b n f := by
  obtain ⟨D, ⟨es, clock, hb, r⟩, hf⟩ := h
  exact ⟨D, ⟨es, clock, e.trans hb, r⟩, hf⟩
theorem M_drew {w : World} {b n : Nat} {f : ByteArray → Bool} (h : M w b n f) : M w.drew b n f := M_of_heap h rfl
theorem M_lt {w : World} {b n : Nat} {f : ByteArray → Bool} (h : M w b n f) : b < w.heap.size := by
  obtain ⟨D, ho, _⟩ := h
  exact ho.lt
theorem M_alloc {w : World} {b n : Nat} {f : ByteArray → Bool} (h : M w b n f) (o : Obj) : M (w.alloc o) b n f := M_of_heap h (Below.heap_alloc w o b (M_lt h))
theorem M_set {w : World} {b n : Nat} {f : ByteArray → Bool} (h : M w b n f) (a : Addr) (u : Value) (hne : b ≠ a.block) : M (w.setCell a u) b n f := M_of_heap h (Below.heap_setCell w a u b hne)
theorem M_below {w w' : World} {b n : Nat} {f : ByteArray → Bool} (h : M w b n f) (hb : Below w.heap.size w w') : M w' b n f := M_of_heap h (hb.block b (M_lt h))
theorem M_grown {w w' : World} {row : Option Nat} {b n : Nat} {f : ByteArray → Bool} (h : M w b n f) (hg : w.grownBy w' row) (hne : some b ≠ row) : M w' b n f := M_of_heap h (hg.block b (M_lt h) hne)
theorem M_made (w : World) : M (w.alloc (.map #[] 0)) w.heap.size 0 (fun _ => false) :=
  ⟨.map [], World.ownsMap_made w _ _ _, fun s _ => rfl⟩
theorem bool_inv {e : TypeId} (he : Tryz.prog.underlying e = some .bool) {v : Value} {z : DataW Unit × List MemPlace} (h : plainElem Tryz.prog e v = some z) : ∃ a, v = .bool a ∧ z = (.lit (.bool a), []) := by
  unfold plainElem at h
  rw [he] at h
  cases v <;> simp at h
  exact ⟨_, rfl, h.symm⟩
/-- 'm[s]'. -/
theorem M_look {w : World} {b n : Nat} {f : ByteArray → Bool} (h : M w b n f) (s : ByteArray) (hs : s.size ≤ maxLen) : (Instr.lookup 82 (.map (some b)) (.string s) false).run Tryz.prog w = .ok (.bool (f s)) w := by
  obtain ⟨D, ho, hf⟩ := h
  obtain ⟨v, ps, hrun, hv⟩ := ho.lookup law Tryz.underlying82 (zero w) (plainElem_bool Tryz.underlying4 false) (keyOf_string_mk Tryz.underlying9 hs)
  obtain ⟨c, rfl, hc⟩ := bool_inv Tryz.underlying4 hv
  have hat := (hf s hs).symm.trans (Prod.mk.inj hc).1
  simp only [DataW.lit.injEq, Lit.bool.injEq] at hat
  rw [hat]
  exact hrun
/-- 'm[s] = true'. -/
theorem M_put {w : World} {b n : Nat} {f : ByteArray → Bool} (h : M w b n f) (hn : n < maxLen) (s : ByteArray) (hs : s.size ≤ maxLen) :
    ∃ w', (Instr.mapUpdate 82 (.map (some b)) (.string s) (.bool true)).run Tryz.prog w = .ok () w' ∧ M w' b (n + 1) (upd f s) ∧ w.grownBy w' (some b) := by
  obtain ⟨D, ho, hf⟩ := h
  obtain ⟨w', hrun, ho', hg⟩ := ho.update law Tryz.underlying82 hn (keyOf_string_mk Tryz.underlying9 hs) (plainElem_bool Tryz.underlying4 true)
  refine ⟨w', hrun, ⟨_, ho', fun t ht => ?_⟩, hg⟩
  unfold upd
  by_cases e : t = s
  · subst e
    rw [if_pos rfl]
    exact Maps.atKey_put_same ho.isMap (show WideAt.IsKeyLit (.string _) from trivial) _ _
  · have hne : (Lit.string t.data.toList) ≠ Lit.string s.data.toList := by
      intro h
      injection h with h
      exact e (ByteArray.ext (Array.toList_inj.1 h))
    rw [if_neg e, Maps.atKey_put_other hne]
    exact hf t ht
variable {ops : Array Oper} {rest : List Oper} {o : Oper} {a : Act} {w : World} {Q : Exit → Act → World → Prop} {b n : Nat} {f : ByteArray → Bool} {s : ByteArray}
/-- 'm[s]' at the operation: the world stays. -/
theorem look_v {e : Bool} (hM : M w b n f) (he : f s = e) (hs : s.size ≤ maxLen) (hg : o.guard = none) (m x : Operand) (hop : o.op = .lookup 82 m x false) (hm : a.eval m = .map (some b)) (hx : a.eval x = .string s)
    (hK : wpList Tryz.prog ops Q rest (a.put o.dst (.bool e)) w) : wpList Tryz.prog ops Q (o :: rest) a w := by
  subst he
  refine wpList_plain hg fun K' hK' => ?_
  have hrun := M_look hM s hs
  unfold Oper.wp
  simp [execOp, hop, hm, hx, hrun, Result.andThen]
  exact hK' _ _ hK
theorem M_mono {n' : Nat} (h : M w b n f) (hn : n ≤ n') : M w b n' f := by
  obtain ⟨D, ho, hf⟩ := h
  exact ⟨D, ho.mono hn, hf⟩
/-- A block of cells is no map's. -/
theorem M_apart {g : Nat} {cs : Array Value} {t : TypeId} {z : Nat × Nat} (h : M w b n f) (hb : w.heap[g]? = some (.cells cs t z)) : g ≠ b := by
  rintro rfl
  obtain ⟨D, ⟨es, clock, hm, _⟩, _⟩ := h
  rw [hm] at hb
  cases hb
/-- 'm[s] = true' at the operation. -/
theorem upd_ (hM : M w b n f) (hn : n < maxLen) (hs : s.size ≤ maxLen) (hg : o.guard = none) (m x v : Operand) (hop : o.op = .mapUpdate 82 m x v)
    (hm : a.eval m = .map (some b)) (hx : a.eval x = .string s) (hv : a.eval v = .bool true)
    (hK : ∀ w', M w' b (n + 1) (upd f s) → w.grownBy w' (some b) → wpList Tryz.prog ops Q rest (a.put o.dst undef) w') : wpList Tryz.prog ops Q (o :: rest) a w := by
  refine wpList_plain hg fun K' hK' => ?_
  obtain ⟨w', hrun, h1, h2⟩ := M_put hM hn s hs
  unfold Oper.wp
  simp [execOp, hop, hm, hx, hv, hrun, Result.andThen]
  exact hK' _ _ (hK w' h1 h2)
end Go.Proofs.YtbmbehkdidlolaaGreatDoor.MapB
