-- written by a program of this session's (wip/tools), over the kit's print
import Derived.Test.YtbmbehkdidlolaaGreatDoorPTx0
import Derived.Test.YtbmbehkdidlolaaGreatDoorPTx1
import Derived.Test.YtbmbehkdidlolaaGreatDoorPTx2
import Derived.Test.YtbmbehkdidlolaaGreatDoorPTx4
import Derived.Test.YtbmbehkdidlolaaGreatDoorPTx6
import Derived.Test.YtbmbehkdidlolaaGreatDoorPTx7
-- squeezed
-- squeezed twice
namespace Go.Proofs.YtbmbehkdidlolaaGreatDoor.PT
open Go.RowKit Go.Proofs.YtbmbehkdidlolaaGreatDoorW.PrintWords Go.Proofs.YtbmbehkdidlolaaGreatDoorW.PrintLast Go.Proofs.YtbmbehkdidlolaaGreatDoorW.PrintMore
attribute [local go_sem] max2_int min2_int max_two min_two max_three min_three max_four min_four   -- for this text's walks alone
set_option linter.unusedVariables false
set_option linter.unusedSimpArgs false

/-! ### impl_turned: function 75 (told by hand) -/
/-- impl.turned: a copy of a text's bytes, one of them set. -/
def impl_turned.f (a0 : ByteArray) (a1 : Int) : Option ByteArray :=
 if 0 ≤ a1 ∧ a1 < (a0.size : Int) ∧ a0.size ≤ 4611686018427387904 ∧ (a0.data.toList.getD a1.toNat 0).toNat ≤ 97 then some ⟨(a0.data.toList.set a1.toNat (UInt8.ofNat (97 - (a0.data.toList.getD a1.toNat 0).toNat))).toArray⟩ else none
set_option maxHeartbeats 8000000 in
set_option maxRecDepth 100000 in
theorem impl_turned.calls (a0 : ByteArray) (a1 : Int) (r : ByteArray) (w : World) (h : impl_turned.f a0 a1 = some r) :
  Calls Tryz.prog 75 #[.string a0, .int .i64 a1] w fun e w' => e = .returned (.string r) ∧ Below w.heap.size w w' := by
 unfold impl_turned.f at h
 by_cases c0 : ¬ (0 ≤ a1 ∧ a1 < (a0.size : Int) ∧ a0.size ≤ 4611686018427387904 ∧ (a0.data.toList.getD a1.toNat 0).toNat ≤ 97)
 ·rw [if_neg c0] at h; exact absurd h (by simp)
 replace c0 := Decidable.not_not.mp c0
 rw [if_pos c0] at h
 obtain rfl := Option.some.inj h
 clear h
 obtain ⟨c1, c2, c3, c4⟩ := c0
 obtain ⟨i, rfl⟩ : ∃ i : Nat, a1 = (i : Int) := ⟨a1.toNat, by omega⟩
 have hi : i < a0.size := by omega
 have e1 : (i : Int).toNat = i := rfl
 rw [e1] at c4 ⊢
 obtain ⟨b, hb⟩ : ∃ b : UInt8, b = a0.data.toList.getD i 0 := ⟨_, rfl⟩
 rw [← hb] at c4 ⊢
 have hconv := Lib.run_convert_string_bytes (P := Tryz.prog) w 9 42 5 a0 Tryz.underlying9 Tryz.underlying42 Tryz.underlying5
 have hat := Lib.bytesWorld_at_new w 5 a0
 have hcells : ∀ j, j < a0.size → (Lib.bytesWorld w 5 a0).cell? ⟨w.heap.size, j, none⟩ = some (.int .u8 (a0.data.toList.getD j 0).toNat) := fun j hj => Lib.bytesWorld_cell w 5 a0 j hj
 have hbel : Below w.heap.size w (Lib.bytesWorld w 5 a0) := bytes_below (Below.refl _ _) (Nat.le_refl _) 5 a0
 have hfz : (Lib.bytesWorld w 5 a0).frozen? ⟨w.heap.size, i, none⟩ = false := by
  have hs : a0.size ≤ (Lib.bytesCells w 5 a0).size := by simp [Lib.bytesCells, Array.size_append]
  simp [World.frozen?, hat]
  omega
 have hci := hcells i hi
 rw [← hb] at hci
 obtain ⟨v, hv⟩ : ∃ v : UInt8, v = UInt8.ofNat (97 - b.toNat) := ⟨_, rfl⟩
 rw [← hv]
 have hvn : (v.toNat : Int) = 97 - (b.toNat : Int) := by
  rw [hv]
  simp
  omega
 have hvw : IntKind.u8.wrap (97 - (b.toNat : Int)) = (v.toNat : Int) := by
  rw [← hvn]
  have := v.toNat_lt
  simp [IntKind.wrap, IntKind.bits, IntKind.signed]
  omega
 have hvm : (97 - (b.toNat : Int)) % 256 = (v.toNat : Int) := by
  rw [← hvn]
  have := v.toNat_lt
  omega
 generalize hW1 : Lib.bytesWorld w 5 a0 = W1 at hconv hat hcells hbel hfz hci
 generalize grownCap w a0.size 0 5 = cap at hconv
 clear hat hW1
 have hback : (convert 42 9 (.slice (some ⟨w.heap.size, 0, none⟩) a0.size cap)).run Tryz.prog (W1.setCell ⟨w.heap.size, i, none⟩ (.int .u8 (v.toNat : Int))) = .ok (.string ⟨(a0.data.toList.set i v).toArray⟩) (W1.setCell ⟨w.heap.size, i, none⟩ (.int .u8 (v.toNat : Int))) := by
  have hl : (a0.data.toList.set i v).length = a0.size := by rw [List.length_set, Array.length_toList]; rfl
  have h := run_convert_bytes_back (P := Tryz.prog) (W1.setCell ⟨w.heap.size, i, none⟩ (.int .u8 (v.toNat : Int))) 42 9 5 ⟨w.heap.size, 0, none⟩ cap (a0.data.toList.set i v) Tryz.underlying42 Tryz.underlying5 Tryz.underlying9 (fun j hj => by
   rw [hl] at hj
   rw [add_plain, List.getElem_set]
   by_cases e : i = j
   ·subst e
    rw [World.cell?_setCell_same _ _ _ (hcells i hi), if_pos rfl]
   ·rw [World.cell?_setCell_other _ _ _ _ (by intro h; injection h with _ h2 _; exact e h2), hcells j hj, if_neg e]
    have hl2 : j < a0.data.toList.length := by rw [Array.length_toList]; exact hj
    simp [List.getD, List.getElem?_eq_getElem hl2])
  rw [hl] at h
  exact h
 have hbe2 : Below w.heap.size w (W1.setCell ⟨w.heap.size, i, none⟩ (.int .u8 (v.toNat : Int))) := hbel.setCell (Nat.le_refl _) _
 have c1b := decide_eq_true c1
 have c2b := decide_eq_true c2
 have HB2 := aM hbe2
 clear hcells hbel hbe2 hb hv hvn e1 c3 c4 c1 c2
 go_enter Tryz.func75, Tryz.ntmps75
 go_wp2
 go_ret
 exact ⟨rfl, HB2.out⟩

/-! ### impl_searchKeyed_1: function 74 (told by hand) -/
/-- The function value of a search by keys: the states behind all moves of a state. -/
def impl_searchKeyed_1.l0 (s : ByteArray) : Nat → List Int → List ByteArray → Int → Option (List ByteArray)
 | 0, _, _, _ => none
 | k + 1, ms, x, i => if i < (ms.length : Int) then (if 0 ≤ i then ((impl_turned.f s (rd ms i)).bind fun t => if x.length < 8796093022208 then impl_searchKeyed_1.l0 s k ms (x ++ [t]) (wrap64 (i + 1)) else none) else none) else some x
def impl_searchKeyed_1.f (l0 : List ByteArray) (k : Nat) (s : ByteArray) : Option (List ByteArray) := (impl_keyedMoves.f k l0 s).bind fun ms => impl_searchKeyed_1.l0 s k ms [] 0
theorem impl_searchKeyed_1.mono_l (s : ByteArray) : ∀ k ms x i, LeO (impl_searchKeyed_1.l0 s k ms x i) (impl_searchKeyed_1.l0 s (k + 1) ms x i)
 | 0, _, _, _ => fun r h => by simp [impl_searchKeyed_1.l0] at h
 | k + 1, ms, x, i => by
  unfold impl_searchKeyed_1.l0
  exact LeO.ite (LeO.ite (LeO.bind (LeO.refl _) (fun _ => LeO.ite (impl_searchKeyed_1.mono_l s k _ _ _) (LeO.none _))) (LeO.none _)) (LeO.refl _)
theorem impl_searchKeyed_1.mono (l0 : List ByteArray) : ∀ s n, LeO (impl_searchKeyed_1.f l0 n s) (impl_searchKeyed_1.f l0 (n + 1) s) := fun s n =>
 LeO.bind (impl_keyedMoves.mono _ _ _) (fun _ => impl_searchKeyed_1.mono_l s n _ _ _)
set_option maxHeartbeats 8000000 in
set_option maxRecDepth 100000 in
theorem impl_searchKeyed_1.calls (B : Nat) (A0 : Option Addr) (c0 : Nat) (l0 : List ByteArray) (k : Nat) (s : ByteArray) (ts : List ByteArray) (w : World) (hbk : w.heap[B]? = some (.cells #[.slice A0 l0.length c0] 22 (0, 0)))
  (hr0 : Kd.C Kd.string w A0 l0.length l0) (hc0 : l0.length ≤ c0) (h : impl_searchKeyed_1.f l0 k s = some ts) :
  Calls Tryz.prog 74 (#[.string s] ++ #[.pointer (some ⟨B, 0, none⟩)]) w fun e w' => ∃ v, e = .returned v ∧ Kd.R Kd.string 9 w' w.heap.size (fun _ => True) v ts ∧ Below w.heap.size w w' := by
 show Calls Tryz.prog 74 #[.string s, .pointer (some ⟨B, 0, none⟩)] w _
 unfold impl_searchKeyed_1.f at h
 obtain ⟨ms, A1_, H⟩ := Option.bind_eq_some_iff.mp h
 have HR0 := aM hr0
 have HC0 := aM hc0
 have HA0 := aM A1_
 have H' := aM H
 have hz0 : w.cell? ⟨B, 0, none⟩ = some (.slice A0 l0.length c0) := (blk_cell hbk 0).trans rfl
 clear hr0 hc0 A1_ hbk h H
 go_enter Tryz.func74, Tryz.ntmps74
 go_wp2_with (first | (go_at_call 62; (with_reducible refine (impl_keyedMoves.calls k A0 c0 l0 s ms w HR0.out HC0.out HA0.out).mono ?_); rintro e w6 ⟨vm, rfl, hm, hb⟩; obtain ⟨Am, cm, em⟩ := Kd.R_slice hm; subst em; have HM := aM hm; have HB := aM hb; clear hm hb))
 go_loopg [4, 11] k (fun kq v4 v11 w' => ∃ (x : List ByteArray) (i : Int), v11 = .int .i64 i ∧ Aside0 (impl_searchKeyed_1.l0 s kq ms x i = some ts) ∧ Aside0 (kq ≤ k) ∧ Aside0 (Kd.R Kd.string 9 w' w.heap.size (fun _ => True) v4 x) ∧ Aside0 (Kd.R (Kd.int .i64) 3 w' w.heap.size (fun _ => True) (.slice Am ms.length cm) ms) ∧ Aside0 (Below w.heap.size w w'))
 case atStart => exact ⟨[], 0, rfl, H', ⟨Nat.le_refl _⟩, ⟨Kd.R_nil _ _ _ _ _⟩, HM, HB⟩
 case round =>
  clear H' HM HB hz0
  obtain ⟨x, i, rfl, HA, HK1, HX, HM, HB⟩ := hrel
  cases gk with
  | zero => exact absurd HA.out (by simp [impl_searchKeyed_1.l0])
  | succ k1 =>
   have H := HA.out
   clear HA
   simp only [impl_searchKeyed_1.l0] at H
   replace H := iO H; obtain ⟨c4, H⟩ | ⟨c4, H⟩ := H
   ·have c4b0 := decide_eq_true c4
    replace H := iO H; obtain ⟨c5, H⟩ | ⟨c5, H⟩ := H
    ·have c5b0 := decide_eq_true c5
     obtain ⟨t, A2_, H⟩ := Option.bind_eq_some_iff.mp H
     have A2 := aM A2_
     clear A2_
     replace H := iO H; obtain ⟨c6, H⟩ | ⟨c6, H⟩ := H
     ·have LM := aM c6
      have H' := aM H
      clear H c6
      obtain ⟨ad, ea, hx0⟩ := Kd.at_int (Kd.R_reads' HM.out).2.2 i c5 c4
      cases ea
      have q4 := eq_true c4
      have q5 := eq_true c5
      clear c4 c5
      go_wp2_with (first
       | ((with_reducible refine gC 75 rfl ?_); refine gL (some 18) Tryz.func75 #[.string s, .int .i64 (rd ms i)] ?_; (with_reducible refine (impl_turned.calls s (rd ms i) t _ A2.out).mono ?_); rintro e w18 ⟨rfl, hb⟩; refine ⟨_, rfl, ?_⟩; have n0_ := aM (Kd.R_below HX.out hb); have n1_ := aM (Kd.R_below HM.out hb); have n4_ := aM (below_step HB.out hb); clear HX HM HB hb; have HX := n0_; have HM := n1_; have HB := n4_; clear n0_ n1_ n4_)
       | ((with_reducible refine gate_builtin (b := .append) (xs := #[.tmp 15, .tmp 19]) rfl ?_); at_builtin; refine Kd.R_append Kd.string (w0 := w) w.heap.size rfl (.tmp 15) (.tmp 19) 22 9 (.string ⟨#[]⟩) 16 rfl Tryz.underlying22 info9 rfl (by decide) (by omega) u4 x t [.string t] (fun _ => True) (fun _ => False) rfl rfl ?aP (fun _ hk => hk.elim) ?aF ?aO ?aB ?aS ?aL ?_; (case aP => exact rfl); (case aB => exact HB.out); (case aF => exact (fun _ _ => trivial)); (case aO => exact HX.out); (case aS => exact below_size HB.out); (case aL => have := LM.out; omega); intro v2 w20 ho hb hg hat; have n0_ := aM (Kd.R_mono (Kd.R_over' HM.out (Kd.R_typed HX.out) (by decide) hg) (fun _ _ => trivial)); have n3_ := aM hb; have n4_ := aM ho; clear HM HB HX; have HM := n0_; have HB := n3_; have HX := n4_; clear n0_ n3_ n4_; clear ho hb hg hat))
      go_roundg k1
      case measure => have := HK1.out; omega
      case rel => exact ⟨x ++ [t], wrap64 (i + 1), rfl, H', ⟨by have := HK1.out; omega⟩, ⟨Kd.R_mono HX.out (fun _ _ => trivial)⟩, HM, HB⟩
     ·cases H
    ·cases H
   ·have c4b0 := decide_eq_false c4
    clear c4
    obtain rfl := Option.some.inj H
    go_wp2
    go_ret
    exact ⟨_, rfl, HX.out, HB.out⟩

/-! ### impl_searchKeyed: function 42 (told by hand) -/
theorem impl_searched.St.rebase {w w5 w' : World} {gb b1 b2 : Nat} {ok : Nat → Prop} {v : Value} {x : List ByteArray} {f g : ByteArray → Option Int} {c : Nat} (hB : Below w.heap.size w w5) (h : impl_searched.St w5 w' gb b1 b2 ok v x f g c) : impl_searched.St w w' gb b1 b2 ok v x f g c :=
 ⟨Kd.R_lower h.lst hB.size, h.blk, h.far, h.way, ⟨Nat.le_trans hB.size h.ge.1, Nat.le_trans hB.size h.ge.2.1, Nat.le_trans hB.size h.ge.2.2.1, h.ge.2.2.2⟩, below_step hB h.bel⟩
def impl_searchKeyed.f (k : Nat) (l0 : List ByteArray) (a1 : ByteArray) : Option (List ByteArray × (ByteArray → Option Int) × (ByteArray → Option Int)) := impl_searched.f (impl_searchKeyed_1.f l0) k a1
theorem impl_searchKeyed.mono : ∀ a0 a1 k, LeO (impl_searchKeyed.f k a0 a1) (impl_searchKeyed.f (k + 1) a0 a1) := fun a0 a1 k => impl_searched.mono (impl_searchKeyed_1.mono a0) a1 k
set_option maxHeartbeats 8000000 in
set_option maxRecDepth 100000 in
theorem impl_searchKeyed.calls (k : Nat) (A0 : Option Addr) (c0 : Nat) (l0 : List ByteArray) (a1 : ByteArray) (r : List ByteArray × (ByteArray → Option Int) × (ByteArray → Option Int)) (w : World) (hr0 : Kd.C Kd.string w A0 l0.length l0) (hc0 : l0.length ≤ c0) (hs : a1.size ≤ maxLen) (h : impl_searchKeyed.f k l0 a1 = some r) :
  Calls Tryz.prog 42 #[.slice A0 l0.length c0, .string a1] w fun e w' => ∃ gb, e = .returned (.pointer (some ⟨gb, 0, none⟩)) ∧ ∃ b1 b2 v c, impl_searched.St w w' gb b1 b2 (fun _ => True) v r.1 r.2.1 r.2.2 c := by
 have hmf : ∀ (fn : Fn) (first cap : Array Value) (w : World), (Instr.makeFunc fn first cap).run Tryz.prog w = .ok (.func fn first cap) w := fun _ _ _ _ => rfl
 have HR0 := aM hr0
 have HC0 := aM hc0
 have HS := aM hs
 have HA := aM (show impl_searched.f (impl_searchKeyed_1.f l0) k a1 = some r from h)
 clear hr0 hc0 hs h
 go_enter Tryz.func42, Tryz.ntmps42
 go_wp2_with (first | ((with_reducible refine gate_dst (N := 2) rfl ?_); refine box_event ?hg (N := 2) ?hd (cs := #[.slice A0 l0.length c0]) (t := 22) ?hr ?_; (case hd => rfl); (case hg => rfl); (case hr => go_simp); intro gb hg w5 hbox hb; have HB := aM hb; have BK := aM hbox; clear hb hbox hg) | (go_at_call 73; (with_reducible refine (impl_searched.calls 74 #[.pointer (some ⟨gb, 0, none⟩)] (Go.Proofs.enters_of Tryz.func74 (by kernel_rfl) rfl) (impl_searchKeyed_1.f l0) k a1 r w5 HS.out (fun j x ts W' hb' hj => impl_searchKeyed_1.calls gb A0 c0 l0 j x ts W' (blk_below (g := gb) (o := .cells #[.slice A0 l0.length c0] 22 (0, 0)) BK.out hb') (Kd.C_below (Kd.C_below HR0.out HB.out) hb') HC0.out hj) HA.out).mono ?_); rintro e w7 ⟨gr, rfl, b1, b2, v, c, hS⟩; have SS := aM (hS.rebase HB.out); clear hS))
 go_ret
 exact ⟨gr, rfl, b1, b2, v, c, SS.out⟩

/-! ### impl_PartsByKeys_1: function 41 (told by hand) -/
/-- The function value of impl.PartsByKeys: a state's search. -/
def impl_PartsByKeys_1.f (l0 : List ByteArray) (k : Nat) (s : ByteArray) : Option (List ByteArray) := (impl_searchKeyed.f k l0 s).bind fun q => some q.1
theorem impl_PartsByKeys_1.mono (l0 : List ByteArray) : ∀ s n, LeO (impl_PartsByKeys_1.f l0 n s) (impl_PartsByKeys_1.f l0 (n + 1) s) := fun s n =>
 LeO.bind (impl_searchKeyed.mono _ _ _) (fun _ => LeO.refl _)
set_option maxHeartbeats 8000000 in
set_option maxRecDepth 100000 in
theorem impl_PartsByKeys_1.calls (B : Nat) (A0 : Option Addr) (c0 : Nat) (l0 : List ByteArray) (k : Nat) (s : ByteArray) (ts : List ByteArray) (w : World) (hbk : w.heap[B]? = some (.cells #[.slice A0 l0.length c0] 22 (0, 0)))
  (hr0 : Kd.C Kd.string w A0 l0.length l0) (hc0 : l0.length ≤ c0) (hs : s.size ≤ maxLen) (h : impl_PartsByKeys_1.f l0 k s = some ts) :
  Calls Tryz.prog 41 (#[.string s] ++ #[.pointer (some ⟨B, 0, none⟩)]) w fun e w' => ∃ gb, e = .returned (.pointer (some ⟨gb, 0, none⟩)) ∧ ∃ b1 b2 v f g c, impl_searched.St w w' gb b1 b2 (fun _ => True) v ts f g c := by
 show Calls Tryz.prog 41 #[.string s, .pointer (some ⟨B, 0, none⟩)] w _
 unfold impl_PartsByKeys_1.f at h
 obtain ⟨q, Q_, h⟩ := Option.bind_eq_some_iff.mp h
 obtain rfl := Option.some.inj h
 clear h
 have HQ := aM Q_
 have HR0 := aM hr0
 have HC0 := aM hc0
 have HS := aM hs
 have hz0 : w.cell? ⟨B, 0, none⟩ = some (.slice A0 l0.length c0) := (blk_cell hbk 0).trans rfl
 clear hr0 hc0 hs hbk Q_
 go_enter Tryz.func41, Tryz.ntmps41
 go_wp2_with ((with_reducible refine gC 42 rfl ?_); refine gL (some 6) Tryz.func42 #[.slice A0 l0.length c0, .string s] ?_; (with_reducible refine (impl_searchKeyed.calls k _ _ l0 s q _ HR0.out HC0.out HS.out HQ.out).mono ?_); rintro e w13 ⟨gr, rfl, b1, b2, v, c, hS⟩; refine ⟨_, rfl, ?_⟩; have SS := aM hS; clear hS)
 go_ret
 exact ⟨gr, rfl, b1, b2, v, _, _, c, SS.out⟩

/-! ### impl_PartsByKeys: function 7 (told by hand) -/
def impl_PartsByKeys.f (k : Nat) (l0 : List ByteArray) : Option (Int × Bool) :=
 (impl_AreKeys.f k l0).bind fun t => if t = true then ((impl_textStates.f k (l0.length : Int)).bind fun ss => (impl_partsOf.f (impl_PartsByKeys_1.f l0) k ss).bind fun n => some (n, true)) else some (0, false)
theorem impl_PartsByKeys.mono : ∀ a0 k, LeO (impl_PartsByKeys.f k a0) (impl_PartsByKeys.f (k + 1) a0) := fun _ _ =>
 LeO.bind (impl_AreKeys.mono _ _) (fun _ => LeO.ite (LeO.bind (impl_textStates.mono _ _) (fun _ => LeO.bind (impl_partsOf.mono (impl_PartsByKeys_1.mono _) _ _) (fun _ => LeO.refl _))) (LeO.refl _))
set_option maxHeartbeats 8000000 in
set_option maxRecDepth 100000 in
theorem impl_PartsByKeys.calls (k : Nat) (A0 : Option Addr) (c0 : Nat) (l0 : List ByteArray) (r1 : Int) (r2 : Bool) (w : World) (hr0 : Kd.C Kd.string w A0 l0.length l0) (hc0 : l0.length ≤ c0) (h : impl_PartsByKeys.f k l0 = some (r1, r2)) :
  Calls Tryz.prog 7 #[.slice A0 l0.length c0] w fun e w' => e = .returned (.tuple #[.int .i64 r1, .bool r2]) ∧ Below w.heap.size w w' := by
 have hmf : ∀ (fn : Fn) (first cap : Array Value) (w : World), (Instr.makeFunc fn first cap).run Tryz.prog w = .ok (.func fn first cap) w := fun _ _ _ _ => rfl
 unfold impl_PartsByKeys.f at h
 obtain ⟨t, A1_, h⟩ := Option.bind_eq_some_iff.mp h
 have HR0 := aM hr0
 have HC0 := aM hc0
 have HA := aM A1_
 clear hr0 hc0 A1_
 cases t with
 | false =>
  rw [if_neg (by simp)] at h
  simp only [Option.some.injEq, Prod.mk.injEq] at h
  obtain ⟨rfl, rfl⟩ := h
  go_enter Tryz.func7, Tryz.ntmps7
  go_wp2_with (first | ((with_reducible refine gate_dst (N := 1) rfl ?_); refine box_event ?hg (N := 1) ?hd (cs := #[.slice A0 l0.length c0]) (t := 22) ?hr ?_; (case hd => rfl); (case hg => rfl); (case hr => go_simp); intro gb hg w5 hbox hb; have HB := aM hb; have hz0 : w5.cell? ⟨gb, 0, none⟩ = some (.slice A0 l0.length c0) := (blk_cell hbox 0).trans rfl; clear hb hbox hg) | (go_at_call 18; (with_reducible refine (impl_AreKeys.calls k A0 c0 l0 false w5 (Kd.C_below HR0.out HB.out) HC0.out HA.out).mono ?_); rintro e w6 ⟨rfl, hb⟩; have HB6 := aM (below_step HB.out hb); clear hb))
  go_ret2
  exact ⟨rfl, HB6.out⟩
 | true =>
  rw [if_pos rfl] at h
  obtain ⟨ss, A2_, h⟩ := Option.bind_eq_some_iff.mp h
  obtain ⟨n, A3_, h⟩ := Option.bind_eq_some_iff.mp h
  simp only [Option.some.injEq, Prod.mk.injEq] at h
  obtain ⟨rfl, rfl⟩ := h
  have HA2 := aM A2_
  have HA3 := aM A3_
  clear A2_ A3_
  go_enter Tryz.func7, Tryz.ntmps7
  go_wp2_with (first | ((with_reducible refine gate_dst (N := 1) rfl ?_); refine box_event ?hg (N := 1) ?hd (cs := #[.slice A0 l0.length c0]) (t := 22) ?hr ?_; (case hd => rfl); (case hg => rfl); (case hr => go_simp); intro gb hg w5 hbox hb; have HB := aM hb; have BK := aM hbox; have hz0 : w5.cell? ⟨gb, 0, none⟩ = some (.slice A0 l0.length c0) := (blk_cell hbox 0).trans rfl; clear hb hbox hg) | (go_at_call 18; (with_reducible refine (impl_AreKeys.calls k A0 c0 l0 true w5 (Kd.C_below HR0.out HB.out) HC0.out HA.out).mono ?_); rintro e w6 ⟨rfl, hb⟩; have HB6 := aM (below_step HB.out hb); have BK6 := aM (blk_below (g := gb) (o := .cells #[.slice A0 l0.length c0] 22 (0, 0)) BK.out hb); have hz6 : w6.cell? ⟨gb, 0, none⟩ = some (.slice A0 l0.length c0) := (blk_cell BK6.out 0).trans rfl; clear hb) | (go_at_call 40; (with_reducible refine (impl_textStates.calls k (l0.length : Int) ss w6 HA2.out).mono ?_); rintro e w7 ⟨vs, rfl, ho, hb⟩; obtain ⟨As, cs, eo⟩ := Kd.R_slice ho; subst eo; have HO := aM ho; have HB7 := aM (below_step HB6.out hb); have BK7 := aM (blk_below (g := gb) (o := .cells #[.slice A0 l0.length c0] 22 (0, 0)) BK6.out hb); clear ho hb) | (go_at_call 39; (with_reducible refine (impl_partsOf.calls 41 #[.pointer (some ⟨gb, 0, none⟩)] (Go.Proofs.enters_of Tryz.func41 (by kernel_rfl) rfl) (impl_PartsByKeys_1.f l0) k As cs ss n w7 (Kd.R_reads' HO.out).2.2 (Kd.R_reads' HO.out).2.1 (fun j x ts W' hb' hs' hj => impl_PartsByKeys_1.calls gb A0 c0 l0 j x ts W' (blk_below (g := gb) (o := .cells #[.slice A0 l0.length c0] 22 (0, 0)) BK7.out hb') (Kd.C_below (Kd.C_below HR0.out HB7.out) hb') HC0.out hs' hj) HA3.out).mono ?_); rintro e w8 ⟨rfl, hb⟩; have HB8 := aM (below_step HB7.out hb); clear hb))
  go_ret2
  exact ⟨rfl, HB8.out⟩

/-! ### spec_keParts: function 43 -/
mutual
def spec_keParts.l0 : Nat → List ByteArray → List Bool → Int → Int → Int → Option (Int)
 | 0, _, _, _, _, _ => none
 | k + 1, x0, x3, x4, x15, x16 => if x16 < x15 then (if 0 ≤ x16 then (if x16 < (x3.length : Int) then (if rdOf false x3 x16 = true then (spec_keParts.l0 k x0 x3 x4 x15 (wrap64 (x16 + 1))) else ((spec_riState.f k (x0.length : Int) x16).bind fun t224 => ((spec_keFar.f k x0 t224).bind fun bt225 => (spec_keParts.l1 k x0 x3 (wrap64 (x4 + 1)) x15 x16 bt225.1 (bt225.1.length : Int) 0)))) else (none)) else (none)) else (some x4)
def spec_keParts.l1 : Nat → List ByteArray → List Bool → Int → Int → Int → List Int → Int → Int → Option (Int)
 | 0, _, _, _, _, _, _, _, _ => none
 | k + 1, x0, x3, x4, x15, x16, x34, x35, x36 => if x36 < x35 then (if 0 ≤ x36 then (if x36 < (x34.length : Int) then (if x36 < (x3.length : Int) then (if rdOf false x3 x36 = true then (spec_keParts.l1 k x0 (x3.set (x36 : Int).toNat true) x4 x15 x16 x34 x35 (wrap64 (x36 + 1))) else (spec_keParts.l1 k x0 (x3.set (x36 : Int).toNat (decide ((rd x34 x36) ≥ 0))) x4 x15 x16 x34 x35 (wrap64 (x36 + 1)))) else (none)) else (none)) else (none)) else (spec_keParts.l0 k x0 x3 x4 x15 (wrap64 (x16 + 1)))
end
def spec_keParts.f (k : Nat) (l0 : List ByteArray) : Option (Int) := if 0 ≤ (shl .i64 1 (l0.length : Int)) then (if (shl .i64 1 (l0.length : Int) : Int).toNat ≤ 281474976710656 then ((some (List.replicate (shl .i64 1 (l0.length : Int) : Int).toNat false : List Bool)).bind fun y220 => (spec_keParts.l0 k l0 y220 0 (y220.length : Int) 0)) else (none)) else (none)
theorem spec_keParts.mono_l : ∀ k, (∀ y0 y1 y2 y3 y4, LeO (spec_keParts.l0 k y0 y1 y2 y3 y4) (spec_keParts.l0 (k + 1) y0 y1 y2 y3 y4)) ∧ (∀ y0 y1 y2 y3 y4 y5 y6 y7, LeO (spec_keParts.l1 k y0 y1 y2 y3 y4 y5 y6 y7) (spec_keParts.l1 (k + 1) y0 y1 y2 y3 y4 y5 y6 y7))
 | 0 => ⟨fun _ _ _ _ _ r h => by simp [spec_keParts.l0] at h, fun _ _ _ _ _ _ _ _ r h => by simp [spec_keParts.l1] at h⟩
 | k + 1 => by
  obtain ⟨ih0, ih1⟩ := spec_keParts.mono_l k
  refine ⟨?_, ?_⟩
  ·intro y0 y1 y2 y3 y4
   unfold spec_keParts.l0
   with_reducible repeat' first | exact ih0 _ _ _ _ _ | exact ih1 _ _ _ _ _ _ _ _ | exact spec_keFar.mono _ _ _ | exact spec_riState.mono _ _ _ | exact LeO.refl _ | exact LeO.none _ | refine LeO.ite ?_ ?_ | refine LeO.bind ?_ (fun _ => ?_)
  ·intro y0 y1 y2 y3 y4 y5 y6 y7
   unfold spec_keParts.l1
   with_reducible repeat' first | exact ih0 _ _ _ _ _ | exact ih1 _ _ _ _ _ _ _ _ | exact spec_keFar.mono _ _ _ | exact spec_riState.mono _ _ _ | exact LeO.refl _ | exact LeO.none _ | refine LeO.ite ?_ ?_ | refine LeO.bind ?_ (fun _ => ?_)
theorem spec_keParts.mono : ∀ a0 k, LeO (spec_keParts.f k a0) (spec_keParts.f (k + 1) a0) := by
 intro a0 k
 obtain ⟨ih0, ih1⟩ := spec_keParts.mono_l k
 unfold spec_keParts.f
 with_reducible repeat' first | exact ih0 _ _ _ _ _ | exact ih1 _ _ _ _ _ _ _ _ | exact spec_keFar.mono _ _ _ | exact spec_riState.mono _ _ _ | exact LeO.refl _ | exact LeO.none _ | refine LeO.ite ?_ ?_ | refine LeO.bind ?_ (fun _ => ?_)
set_option maxHeartbeats 8000000 in
set_option maxRecDepth 100000 in
theorem spec_keParts.calls (k : Nat) (A0 : Option Addr) (c0 : Nat) (l0 : List ByteArray) (r : Int) (w : World) (hr0 : Kd.C Kd.string w A0 l0.length l0) (hc0 : l0.length ≤ c0) (h : spec_keParts.f k l0 = some r) :
  Calls Tryz.prog 43 #[.slice A0 l0.length c0] w fun e w' => e = .returned (.int .i64 r) ∧ Below w.heap.size w w' := by
 have HR0 := aM hr0
 have HC0 := aM hc0
 clear hr0 hc0
 have HB := aM (Below.refl w.heap.size w)
 have H := h; clear h; unfold spec_keParts.f at H
 obtain ⟨ji2, hji2⟩ : ∃ j_ : Int, (shl .i64 1 (l0.length : Int)) = j_ := ⟨_, rfl⟩
 replace H : (if 0 ≤ (ji2) then (if (ji2 : Int).toNat ≤ 281474976710656 then ((some (List.replicate (ji2 : Int).toNat false : List Bool)).bind fun y220 => (spec_keParts.l0 k l0 y220 0 (y220.length : Int) 0)) else (none)) else (none)) = some r := by first | (rw [hji2] at H; exact H) | (simp only [hji2] at H ⊢; exact H)
 have hji2_ : (IntKind.i64.wrap (1 * 2 ^ min (l0.length : Int).toNat 64)) = ji2 := hji2
 have hji2z : (l0.length : Int) ≤ 64 → (IntKind.i64.wrap (1 * 2 ^ (l0.length : Int).toNat)) = ji2 := shl_small hji2
 have hji2p : (IntKind.i64.wrap (1 * 2 ^ min l0.length 64)) = ji2 := hji2_
 have hji2q : (l0.length : Int) ≤ 64 → (IntKind.i64.wrap (1 * 2 ^ l0.length)) = ji2 := hji2z
 have hji2r : (IntKind.i64.wrap (2 ^ min l0.length 64)) = ji2 := by have h_ := hji2p; rw [Int.one_mul] at h_; exact h_
 have hji2s : (l0.length : Int) ≤ 64 → (IntKind.i64.wrap (2 ^ l0.length)) = ji2 := fun hle_ => by have h_ := hji2q hle_; rw [Int.one_mul] at h_; exact h_
 have hji2u : (IntKind.i64.wrap (2 ^ min (l0.length : Int).toNat 64)) = ji2 := by have h_ := hji2_; rw [Int.one_mul] at h_; exact h_
 have hji2v : (l0.length : Int) ≤ 64 → (IntKind.i64.wrap (2 ^ (l0.length : Int).toNat)) = ji2 := fun hle_ => by have h_ := hji2z hle_; rw [Int.one_mul] at h_; exact h_
 have hji2y : (wrap64 (1 * 2 ^ min (l0.length : Int).toNat 64)) = ji2 := (i64_w _).symm.trans hji2_
 have hji2x : (l0.length : Int) ≤ 64 → (wrap64 (1 * 2 ^ (l0.length : Int).toNat)) = ji2 := fun h_ => (i64_w _).symm.trans (hji2z h_)
 replace H := iC H; obtain ⟨c3, H⟩ := H
 have c3b0 := eq_true c3
 have c3b1 := decide_eq_true c3
 clear c3
 replace H := iC H; obtain ⟨c4, H⟩ := H
 have c4b0 := eq_true c4
 have c4b1 := decide_eq_true c4
 clear c4
 replace H := jY H; obtain ⟨y220, Ny220, H⟩ := H
 have H' := aM H
 clear H
 go_enter Tryz.func43, Tryz.ntmps43
 go_wp2_with (first | ((with_reducible refine gate_dst (N := 13) rfl ?_); refine Kd.R_make Kd.bool _ 4 rfl (N := 13) rfl 88 _ _ rfl ji2 rfl rfl Tryz.underlying88 (.bool false) 1 info4 rfl (by decide) (by omega) false (ok := fun _ => True) (okp := fun _ => True) rfl (fun _ hk => hk) trivial (oD) (Nat.le_trans (Nat.mul_le_mul_right _ (oD : ji2.toNat ≤ 281474976710656)) (by omega)) (Below.refl _ _) (Nat.le_refl _) ?_; intro v221 w5 ho6 hb hg_ hnew_; clear hg_ hnew_; rw [← Ny220.out] at ho6; have HO222 := aM (Kd.R_lower ho6 (below_size HB.out)); replace HB := aM (below_step HB.out hb); clear hb ho6; obtain ⟨Ao7, co7, eo7⟩ := Kd.R_slice HO222.out; subst eo7))
 go_loopg [4, 16] k (fun kq v4 v16 w' => ∃ (x3_1 : List Bool) (x4_1 : Int) (x16_1 : Int), v4 = .int .i64 x4_1 ∧ v16 = .int .i64 x16_1 ∧ Aside0 (spec_keParts.l0 kq l0 x3_1 x4_1 (y220.length : Int) x16_1 = some r) ∧ Aside0 (kq ≤ k) ∧ Aside0 (Kd.R Kd.bool 4 w' w.heap.size (fun _ => True) (.slice Ao7 y220.length co7) x3_1) ∧ Aside0 (Below w.heap.size w w'))
 case atStart => exact ⟨(y220), (0), (0), rfl, rfl, H', ⟨Nat.le_refl _⟩, HO222, HB⟩
 case round =>
  clear H'
  clear c3b0 c3b1 c4b0 c4b1
  obtain ⟨x3_1, x4_1, x16_1, rfl, rfl, HA, HK1, HO_3, HB⟩ := hrel
  have hl3_1 := (Kd.R_reads' HO_3.out).1
  rw [hl3_1] at HO_3
  cases gk with
  | zero => exact absurd HA.out (by simp [spec_keParts.l0])
  | succ k1 =>
   have H := HA.out
   clear HA
   simp only [spec_keParts.l0] at H
   replace H := iO H; obtain ⟨c8, H⟩ | ⟨c8, H⟩ := H
   ·have c8b0 := decide_eq_true c8
    clear c8
    replace H := iC H; obtain ⟨c9, H⟩ := H
    have c9b0 := decide_eq_true c9
    clear c9
    replace H := iC H; obtain ⟨c10, H⟩ := H
    have c10b0 := decide_eq_true c10
    clear c10
    obtain ⟨bq11, hbq11⟩ : ∃ b_ : Bool, b_ = (rdOf false x3_1 x16_1) := ⟨_, rfl⟩
    replace H : (if bq11 = true then (spec_keParts.l0 k1 l0 x3_1 x4_1 (y220.length : Int) (wrap64 (x16_1 + 1))) else ((spec_riState.f k1 (l0.length : Int) x16_1).bind fun t224 => ((spec_keFar.f k1 l0 t224).bind fun bt225 => (spec_keParts.l1 k1 l0 x3_1 (wrap64 (x4_1 + 1)) (y220.length : Int) x16_1 bt225.1 (bt225.1.length : Int) 0)))) = some r := by rw [← hbq11] at H; exact H
    have Nbq11 := aM hbq11
    clear hbq11
    by_cases c12 : bq11 = true
    ·subst c12
     replace H := jT H
     have H' := aM H
     clear H; have p223 : 0 ≤ (x16_1 : Int) := oD; have q223 : x16_1 < (x3_1.length : Int) := oD; obtain ⟨ad223, e223, hx223_0⟩ := Kd.at_bool (Kd.R_reads' HO_3.out).2.2 x16_1 p223 q223
     (try rw [← Nbq11.out] at hx223_0)
     cases e223; replace p223 := eq_true p223; replace q223 := eq_true q223
     go_wp2
     (try simp only [← hl3_1])
     go_roundg k1
     case measure => have := HK1.out; omega
     case rel => exact ⟨(x3_1), (x4_1), (wrap64 (x16_1 + 1)), rfl, rfl, H', ⟨by have := HK1.out; omega⟩, ⟨by (try simp only [hl3_1]); (with_reducible repeat (first | apply rA | apply rN | apply rD)); exact HO_3.out⟩, ⟨bQ⟩⟩
    ·replace c12 := Bool.eq_false_iff.mpr c12
     subst c12
     replace H := jF H
     replace H := jS H; obtain ⟨t224, A13, H⟩ := H
     replace H := jS H; obtain ⟨⟨t225, t226⟩, A14, H⟩ := H; dsimp only at H
     have H' := aM H
     clear H; have p223 : 0 ≤ (x16_1 : Int) := oD; have q223 : x16_1 < (x3_1.length : Int) := oD; obtain ⟨ad223, e223, hx223_0⟩ := Kd.at_bool (Kd.R_reads' HO_3.out).2.2 x16_1 p223 q223
     (try rw [← Nbq11.out] at hx223_0)
     cases e223; replace p223 := eq_true p223; replace q223 := eq_true q223
     go_wp2_with (first | ((with_reducible refine gC 37 rfl ?_); refine gL (some 30) Tryz.func37 #[.int .i64 (l0.length : Int), .int .i64 x16_1] ?_; (with_reducible refine (spec_riState.calls k1 (l0.length : Int) x16_1 t224 _ A13.out).mono ?_); rintro e w' ⟨rfl, ⟨nd, rfl⟩⟩; refine ⟨_, rfl, ?_⟩) | ((with_reducible refine gC 36 rfl ?_); refine gL (some 31) Tryz.func36 #[.slice A0 l0.length c0, .string t224] ?_; (with_reducible refine (spec_keFar.calls k1 _ _ l0 t224 t225 t226 _ ?side1 ?side2 A14.out).mono ?_); (case side1 => repeat first | exact Kd.C_below HR0.out bQ | refine cA ?_ _ | refine cN ?_ _ | refine cD ?_); (case side2 => exact HC0.out); rintro e w15 ⟨v227, v229, rfl, ho0, ho1, hb⟩; refine ⟨_, rfl, ?_⟩; replace HO_3 := aM (Kd.R_below (rQ HO_3.out) hb); have HO228 := aM (Kd.R_lower ho0 (below_size bQ)); have HO230 := aM (Kd.R_lower ho1 (below_size bQ)); replace HB := aM (below_step bQ hb); (try clear hb); (try clear ho0); (try clear ho1); obtain ⟨Ao16, co16, eo16⟩ := Kd.R_slice HO228.out; subst eo16))
     generalize (Value.pointer (some (ad223.add (x16_1 : Int).toNat))) = vdead
     go_loopg [36] k1 (fun kq v36 w' => ∃ (x3_2 : List Bool) (x36_2 : Int), v36 = .int .i64 x36_2 ∧ Aside0 (spec_keParts.l1 kq l0 x3_2 (wrap64 (x4_1 + 1)) (y220.length : Int) x16_1 t225 (t225.length : Int) x36_2 = some r) ∧ Aside0 (kq ≤ k1) ∧ Aside0 (Kd.R Kd.bool 4 w' w.heap.size (fun _ => True) (.slice (some ad223) x3_1.length co7) x3_2) ∧ Aside0 (Kd.R (Kd.int .i64) 3 w' w.heap.size (fun _ => True) (.slice Ao16 t225.length co16) t225) ∧ Aside0 (Below w.heap.size w w'))
     case atStart => exact ⟨(x3_1), (0), rfl, H', ⟨Nat.le_refl _⟩, HO_3, ⟨Kd.R_mono HO228.out (fun _ hk => trivial)⟩, HB⟩
     case round =>
      clear H'
      clear c8b0 c9b0 c10b0 hx223_0 p223 q223
      obtain ⟨x3_2, x36_2, rfl, HA, HK2, HO_3, HO_34, HB⟩ := hrel
      have hl3_2 := (Kd.R_reads' HO_3.out).1
      rw [hl3_2] at HO_3
      cases gk with
      | zero => exact absurd HA.out (by simp [spec_keParts.l1])
      | succ k2 =>
       have H := HA.out
       clear HA
       simp only [spec_keParts.l1] at H
       replace H := iO H; obtain ⟨c17, H⟩ | ⟨c17, H⟩ := H
       ·have c17b0 := decide_eq_true c17
        clear c17
        replace H := iC H; obtain ⟨c18, H⟩ := H
        have c18b0 := decide_eq_true c18
        clear c18
        replace H := iC H; obtain ⟨c19, H⟩ := H
        have c19b0 := decide_eq_true c19
        clear c19
        replace H := iN H; obtain ⟨c20b0, H⟩ := H
        obtain ⟨bq21, hbq21⟩ : ∃ b_ : Bool, b_ = (rdOf false x3_2 x36_2) := ⟨_, rfl⟩
        replace H : (if bq21 = true then (spec_keParts.l1 k2 l0 (x3_2.set (x36_2 : Int).toNat true) (wrap64 (x4_1 + 1)) (y220.length : Int) x16_1 t225 (t225.length : Int) (wrap64 (x36_2 + 1))) else (spec_keParts.l1 k2 l0 (x3_2.set (x36_2 : Int).toNat (decide ((rd t225 x36_2) ≥ 0))) (wrap64 (x4_1 + 1)) (y220.length : Int) x16_1 t225 (t225.length : Int) (wrap64 (x36_2 + 1)))) = some r := by rw [← hbq21] at H; exact H
        have Nbq21 := aM hbq21
        clear hbq21
        by_cases c22 : bq21 = true
        ·subst c22
         replace H := jT H
         obtain ⟨y233, Ny233, h_⟩ := yG (α := List Bool) (x3_2.set (x36_2 : Int).toNat true); rw [← h_] at H; clear h_
         have H' := aM H
         clear H; obtain ⟨ad231, e231, hx231_0, p231, q231⟩ := aZ (Kd.at_int (Kd.R_reads' HO_34.out).2.2 x36_2); cases e231; have p232 : 0 ≤ (x36_2 : Int) := oD; have q232 : x36_2 < (x3_2.length : Int) := oD; obtain ⟨ad232, e232, hx232_0⟩ := Kd.at_bool (Kd.R_reads' HO_3.out).2.2 x36_2 p232 q232
         (try rw [← Nbq11.out] at hx232_0)
         (try rw [← Nbq21.out] at hx232_0)
         obtain rfl : ad223 = ad232 := (by injection e232); replace p232 := eq_true p232; replace q232 := eq_true q232; have p23 : 0 ≤ (x36_2 : Int) := oD; have q23 : (x36_2 : Int) < ((x3_2.length : Int) : Int) := oD
         obtain ⟨go23, co23, eo23, gb23, gl23, cl23, HG23⟩ := Kd.R_form HO_3.out (by omega)
         (first | cases eo23 | (injection eo23 with ea_ en_ ec_; (first | subst ea_ | (injection ea_ with ea_; subst ea_)); subst ec_; clear en_))
         have GB23 := aM gb23
         have GG23 := aM HG23
         clear gb23 gl23 HG23
         (first | simp only [add_plain] at hx223_0 | skip)
         (first | simp only [add_plain] at hx232_0 | skip)
         obtain ⟨hx23_0, hf23_0⟩ := Kd.R_celln false HO_3.out (x36_2 : Int) p23 q23; replace p23 := eq_true p23; replace q23 := eq_true q23
         have HP24 := Kd.R_putg HO_3.out (x36_2 : Int) true
         go_wp2_with (first | ((with_reducible refine gate_store (t := 4) (p := 51) rfl ?_); refine store_event (t := 4) (p := 51) (v := ?vo_w25) (w1 := (wr.setCell ⟨go23, (x36_2 : Int).toNat, none⟩ (.bool true))) ?hg ?ho ?hn ?hr ?_; (case ho => rfl); (case hg => rfl); (case hn => rfl); (case hr => go_simp); intro w25 hw; have hg : wr.grownBy w25 (some go23) := (by rw [hw]; exact HP24.2); have hp_ : Kd.R Kd.bool 4 w25 w.heap.size (fun _ => True) (.slice (some ⟨go23, 0, none⟩) x3_2.length co7) y233 := (by rw [hw, Ny233.out]; exact HP24.1); clear HP24; replace HO_34 := aM (Kd.R_over' (v := (.slice (some ⟨go23, 0, none⟩) x3_2.length co7)) HO_34.out (Kd.R_typed HO_3.out) (by decide) hg); replace HO_3 := aM (hp_); replace HB := aM ((by rw [hw]; exact below_set (HB.out) GB23.out : Below w.heap.size w w25)); clear hg hw hp_))
         (try simp only [← hl3_2])
         go_roundg k2
         case measure => have := HK1.out; have := HK2.out; omega
         case rel => exact ⟨(y233), (wrap64 (x36_2 + 1)), rfl, H', ⟨by have := HK1.out; have := HK2.out; omega⟩, ⟨by (try simp only [hl3_1]); (try simp only [hl3_2]); (with_reducible repeat (first | apply rA | apply rN | apply rD)); exact HO_3.out⟩, ⟨by (try simp only [hl3_1]); (try simp only [hl3_2]); (with_reducible repeat (first | apply rA | apply rN | apply rD)); exact HO_34.out⟩, ⟨bQ⟩⟩
        ·replace c22 := Bool.eq_false_iff.mpr c22
         subst c22
         replace H := jF H
         obtain ⟨y234, Ny234, h_⟩ := yG (α := List Bool) (x3_2.set (x36_2 : Int).toNat (decide ((rd t225 x36_2) ≥ 0))); rw [← h_] at H; clear h_
         have H' := aM H
         clear H; obtain ⟨ad231, e231, hx231_0, p231, q231⟩ := aZ (Kd.at_int (Kd.R_reads' HO_34.out).2.2 x36_2); cases e231; have p232 : 0 ≤ (x36_2 : Int) := oD; have q232 : x36_2 < (x3_2.length : Int) := oD; obtain ⟨ad232, e232, hx232_0⟩ := Kd.at_bool (Kd.R_reads' HO_3.out).2.2 x36_2 p232 q232
         (try rw [← Nbq11.out] at hx232_0)
         (try rw [← Nbq21.out] at hx232_0)
         obtain rfl : ad223 = ad232 := (by injection e232); replace p232 := eq_true p232; replace q232 := eq_true q232; have p26 : 0 ≤ (x36_2 : Int) := oD; have q26 : (x36_2 : Int) < ((x3_2.length : Int) : Int) := oD
         obtain ⟨go26, co26, eo26, gb26, gl26, cl26, HG26⟩ := Kd.R_form HO_3.out (by omega)
         (first | cases eo26 | (injection eo26 with ea_ en_ ec_; (first | subst ea_ | (injection ea_ with ea_; subst ea_)); subst ec_; clear en_))
         have GB26 := aM gb26
         have GG26 := aM HG26
         clear gb26 gl26 HG26
         (first | simp only [add_plain] at hx232_0 | skip)
         obtain ⟨hx26_0, hf26_0⟩ := Kd.R_celln false HO_3.out (x36_2 : Int) p26 q26; replace p26 := eq_true p26; replace q26 := eq_true q26
         have HP27 := Kd.R_putg HO_3.out (x36_2 : Int) (decide ((rd t225 x36_2) ≥ 0))
         go_wp2_with (first | ((with_reducible refine gate_store (t := 4) (p := 51) rfl ?_); refine store_event (t := 4) (p := 51) (v := ?vo_w28) (w1 := (wr.setCell ⟨go26, (x36_2 : Int).toNat, none⟩ (.bool (decide ((rd t225 x36_2) ≥ 0))))) ?hg ?ho ?hn ?hr ?_; (case ho => rfl); (case hg => rfl); (case hn => rfl); (case hr => go_simp); intro w28 hw; have hg : wr.grownBy w28 (some go26) := (by rw [hw]; exact HP27.2); have hp_ : Kd.R Kd.bool 4 w28 w.heap.size (fun _ => True) (.slice (some ⟨go26, 0, none⟩) x3_2.length co7) y234 := (by rw [hw, Ny234.out]; exact HP27.1); clear HP27; replace HO_34 := aM (Kd.R_over' (v := (.slice (some ⟨go26, 0, none⟩) x3_2.length co7)) HO_34.out (Kd.R_typed HO_3.out) (by decide) hg); replace HO_3 := aM (hp_); replace HB := aM ((by rw [hw]; exact below_set (HB.out) GB26.out : Below w.heap.size w w28)); clear hg hw hp_))
         (try simp only [← hl3_2])
         go_roundg k2
         case measure => have := HK1.out; have := HK2.out; omega
         case rel => exact ⟨(y234), (wrap64 (x36_2 + 1)), rfl, H', ⟨by have := HK1.out; have := HK2.out; omega⟩, ⟨by (try simp only [hl3_1]); (try simp only [hl3_2]); (with_reducible repeat (first | apply rA | apply rN | apply rD)); exact HO_3.out⟩, ⟨by (try simp only [hl3_1]); (try simp only [hl3_2]); (with_reducible repeat (first | apply rA | apply rN | apply rD)); exact HO_34.out⟩, ⟨bQ⟩⟩
       ·have c17b0 := decide_eq_false c17
        clear c17
        have H' := aM H
        clear H
        go_wp2
        (try simp only [← hl3_1, ← hl3_2])
        go_roundg k2
        case measure => have := HK1.out; have := HK2.out; omega
        case rel => exact ⟨(x3_2), ((wrap64 (x4_1 + 1))), (wrap64 (x16_1 + 1)), rfl, rfl, H', ⟨by have := HK1.out; have := HK2.out; omega⟩, ⟨by (try simp only [hl3_1]); (try simp only [hl3_2]); (with_reducible repeat (first | apply rA | apply rN | apply rD)); exact HO_3.out⟩, ⟨bQ⟩⟩
   ·have c8b0 := decide_eq_false c8
    (try (have c8m0 := c8b0; simp only [hl3_1] at c8m0))
    clear c8
    obtain rfl := Option.some.inj H
    go_wp2
    go_ret
    exact ⟨by first | rfl | (simp [errW_none, errW_some] <;> rfl) | (simp only [← hji2]; first | rfl | (simp [errW_none, errW_some] <;> rfl)) | (simp [*, errW_none, errW_some] <;> rfl), HB.out⟩
/-! ### spec_PartsByKeys: function 8 -/
def spec_PartsByKeys.f (k : Nat) (l0 : List ByteArray) : Option (Int × Bool) := (spec_keGood.f k l0).bind fun t235 => (if t235 = true then ((spec_keParts.f k l0).bind fun t236 => (some (t236, true))) else (some (0, false)))
theorem spec_PartsByKeys.mono : ∀ a0 k, LeO (spec_PartsByKeys.f k a0) (spec_PartsByKeys.f (k + 1) a0) := by
 intro a0 k
 unfold spec_PartsByKeys.f
 with_reducible repeat' first | exact spec_keGood.mono _ _ | exact spec_keParts.mono _ _ | exact LeO.refl _ | exact LeO.none _ | refine LeO.ite ?_ ?_ | refine LeO.bind ?_ (fun _ => ?_)
set_option maxHeartbeats 8000000 in
set_option maxRecDepth 100000 in
theorem spec_PartsByKeys.calls (k : Nat) (A0 : Option Addr) (c0 : Nat) (l0 : List ByteArray) (r1 : Int) (r2 : Bool) (w : World) (hr0 : Kd.C Kd.string w A0 l0.length l0) (hc0 : l0.length ≤ c0) (h : spec_PartsByKeys.f k l0 = some (r1, r2)) :
  Calls Tryz.prog 8 #[.slice A0 l0.length c0] w fun e w' => e = .returned (.tuple #[.int .i64 r1, .bool r2]) ∧ Below w.heap.size w w' := by
 have HR0 := aM hr0
 have HC0 := aM hc0
 clear hr0 hc0
 have HB := aM (Below.refl w.heap.size w)
 have H := h; clear h; unfold spec_PartsByKeys.f at H
 replace H := jS H; obtain ⟨t235, A2, H⟩ := H
 by_cases c3 : t235 = true
 ·subst c3
  replace H := jT H
  replace H := jS H; obtain ⟨t236, A4, H⟩ := H
  simp only [Option.some.injEq, Prod.mk.injEq] at H
  obtain ⟨rfl, rfl⟩ := H
  go_enter Tryz.func8, Tryz.ntmps8
  go_wp2_with (first | ((with_reducible refine gC 35 rfl ?_); refine gL (some 5) Tryz.func35 #[.slice A0 l0.length c0] ?_; (with_reducible refine (spec_keGood.calls k _ _ l0 true _ ?side1 ?side2 A2.out).mono ?_); (case side1 => repeat (first | exact HR0.out | (with_reducible refine cA ?_ _) | (with_reducible refine cN ?_ _) | (with_reducible refine cD ?_))); (case side2 => exact HC0.out); rintro e w' ⟨rfl, ⟨nd, rfl⟩⟩; refine ⟨_, rfl, ?_⟩) | ((with_reducible refine gC 43 rfl ?_); refine gL (some 8) Tryz.func43 #[.slice A0 l0.length c0] ?_; (with_reducible refine (spec_keParts.calls k _ _ l0 t236 _ ?side1 ?side2 A4.out).mono ?_); (case side1 => repeat (first | exact HR0.out | (with_reducible refine cA ?_ _) | (with_reducible refine cN ?_ _) | (with_reducible refine cD ?_))); (case side2 => exact HC0.out); rintro e w5 ⟨rfl, hb⟩; refine ⟨_, rfl, ?_⟩; replace HB := aM (below_step bQ hb); (try clear hb)))
  go_ret2
  exact ⟨rfl, HB.out⟩
 ·replace c3 := Bool.eq_false_iff.mpr c3
  subst c3
  replace H := jF H
  simp only [Option.some.injEq, Prod.mk.injEq] at H
  obtain ⟨rfl, rfl⟩ := H
  go_enter Tryz.func8, Tryz.ntmps8
  go_wp2_with (first | ((with_reducible refine gC 35 rfl ?_); refine gL (some 5) Tryz.func35 #[.slice A0 l0.length c0] ?_; (with_reducible refine (spec_keGood.calls k _ _ l0 false _ ?side1 ?side2 A2.out).mono ?_); (case side1 => repeat (first | exact HR0.out | (with_reducible refine cA ?_ _) | (with_reducible refine cN ?_ _) | (with_reducible refine cD ?_))); (case side2 => exact HC0.out); rintro e w' ⟨rfl, ⟨nd, rfl⟩⟩; refine ⟨_, rfl, ?_⟩))
  go_ret2
  exact ⟨rfl, bQ⟩

/-! ### impl_LinksByKeys: function 9 -/
def impl_LinksByKeys.l0 : Nat → Int → List (List Int) → Int → Int → Option (Int × Bool)
 | 0, _, _, _, _ => none
 | k + 1, x4, x11, x12, x13 => if x13 < x12 then (if 0 ≤ x13 then (if x13 < (x11.length : Int) then (impl_LinksByKeys.l0 k (wrap64 (x4 + ((rd_L2 x11 x13).length : Int))) x11 x12 (wrap64 (x13 + 1))) else (none)) else (none)) else (some (wrap64 (Int.tdiv x4 2), true))
def impl_LinksByKeys.f (k : Nat) (l0 : List ByteArray) : Option (Int × Bool) := (impl_AreKeys.f k l0).bind fun t237 => (if t237 = true then ((impl_keyedLinks.f k l0).bind fun t238 => (impl_LinksByKeys.l0 k 0 t238 (t238.length : Int) 0)) else (some (0, false)))
theorem impl_LinksByKeys.mono_l : ∀ k, (∀ y0 y1 y2 y3, LeO (impl_LinksByKeys.l0 k y0 y1 y2 y3) (impl_LinksByKeys.l0 (k + 1) y0 y1 y2 y3))
 | 0 => fun _ _ _ _ r h => by simp [impl_LinksByKeys.l0] at h
 | k + 1 => by
  have ih0 := impl_LinksByKeys.mono_l k
  ·intro y0 y1 y2 y3
   unfold impl_LinksByKeys.l0
   with_reducible repeat' first | exact ih0 _ _ _ _ | exact impl_AreKeys.mono _ _ | exact impl_keyedLinks.mono _ _ | exact LeO.refl _ | exact LeO.none _ | refine LeO.ite ?_ ?_ | refine LeO.bind ?_ (fun _ => ?_)
theorem impl_LinksByKeys.mono : ∀ a0 k, LeO (impl_LinksByKeys.f k a0) (impl_LinksByKeys.f (k + 1) a0) := by
 intro a0 k
 have ih0 := impl_LinksByKeys.mono_l k
 unfold impl_LinksByKeys.f
 with_reducible repeat' first | exact ih0 _ _ _ _ | exact impl_AreKeys.mono _ _ | exact impl_keyedLinks.mono _ _ | exact LeO.refl _ | exact LeO.none _ | refine LeO.ite ?_ ?_ | refine LeO.bind ?_ (fun _ => ?_)
set_option maxHeartbeats 8000000 in
set_option maxRecDepth 100000 in
theorem impl_LinksByKeys.calls (k : Nat) (A0 : Option Addr) (c0 : Nat) (l0 : List ByteArray) (r1 : Int) (r2 : Bool) (w : World) (hr0 : Kd.C Kd.string w A0 l0.length l0) (hc0 : l0.length ≤ c0) (h : impl_LinksByKeys.f k l0 = some (r1, r2)) :
  Calls Tryz.prog 9 #[.slice A0 l0.length c0] w fun e w' => e = .returned (.tuple #[.int .i64 r1, .bool r2]) ∧ Below w.heap.size w w' := by
 have HR0 := aM hr0
 have HC0 := aM hc0
 clear hr0 hc0
 have HB := aM (Below.refl w.heap.size w)
 have H := h; clear h; unfold impl_LinksByKeys.f at H
 replace H := jS H; obtain ⟨t237, A2, H⟩ := H
 by_cases c3 : t237 = true
 ·subst c3
  replace H := jT H
  replace H := jS H; obtain ⟨t238, A4, H⟩ := H
  have H' := aM H
  clear H
  go_enter Tryz.func9, Tryz.ntmps9
  go_wp2_with (first | ((with_reducible refine gC 18 rfl ?_); refine gL (some 8) Tryz.func18 #[.slice A0 l0.length c0] ?_; (with_reducible refine (impl_AreKeys.calls k _ _ l0 true _ ?side1 ?side2 A2.out).mono ?_); (case side1 => repeat (first | exact HR0.out | (with_reducible refine cA ?_ _) | (with_reducible refine cN ?_ _) | (with_reducible refine cD ?_))); (case side2 => exact HC0.out); rintro e w5 ⟨rfl, hb⟩; refine ⟨_, rfl, ?_⟩; replace HB := aM (below_step HB.out hb); (try clear hb)) | ((with_reducible refine gC 33 rfl ?_); refine gL (some 11) Tryz.func33 #[.slice A0 l0.length c0] ?_; (with_reducible refine (impl_keyedLinks.calls k _ _ l0 t238 _ ?side1 ?side2 A4.out).mono ?_); (case side1 => exact Kd.C_below HR0.out HB.out); (case side2 => exact HC0.out); rintro e w6 ⟨v239, rfl, ho0, hb⟩; refine ⟨_, rfl, ?_⟩; have HO240 := aM (Kd.S_lower ho0 (below_size HB.out)); replace HB := aM (below_step HB.out hb); (try clear hb); (try clear ho0); obtain ⟨Ao7, co7, eo7⟩ := Kd.S_slice HO240.out; subst eo7))
  go_loopg [4, 13] k (fun kq v4 v13 w' => ∃ (x4_1 : Int) (x13_1 : Int), v4 = .int .i64 x4_1 ∧ v13 = .int .i64 x13_1 ∧ Aside0 (impl_LinksByKeys.l0 kq x4_1 t238 (t238.length : Int) x13_1 = some (r1, r2)) ∧ Aside0 (kq ≤ k) ∧ Aside0 (Kd.S (Kd.slice 3 (Kd.int .i64)) 36 w' w.heap.size (fun _ => True) (.slice Ao7 t238.length co7) t238) ∧ Aside0 (Below w.heap.size w w'))
  case atStart => exact ⟨(0), (0), rfl, rfl, H', ⟨Nat.le_refl _⟩, ⟨by (with_reducible repeat (first | apply Kd.S_alloc | apply Kd.S_drewN | apply Kd.S_drew)); exact HO240.out⟩, HB⟩
  case round =>
   clear H'
   obtain ⟨x4_1, x13_1, rfl, rfl, HA, HK1, HO_11, HB⟩ := hrel
   cases gk with
   | zero => exact absurd HA.out (by simp [impl_LinksByKeys.l0])
   | succ k1 =>
    have H := HA.out
    clear HA
    simp only [impl_LinksByKeys.l0] at H
    replace H := iO H; obtain ⟨c8, H⟩ | ⟨c8, H⟩ := H
    ·have c8b0 := decide_eq_true c8
     clear c8
     replace H := iC H; obtain ⟨c9, H⟩ := H
     have c9b0 := decide_eq_true c9
     clear c9
     replace H := iN H; obtain ⟨c10b0, H⟩ := H
     have H' := aM H
     clear H; have p241 : 0 ≤ (x13_1 : Int) := oD; have q241 : x13_1 < (t238.length : Int) := oD
     obtain ⟨ad241, A241_0, c241_0, e241, hx241_0, hl241_0, hi241_0⟩ := at_L2 (Kd.S_reads' HO_11.out).2.2 x13_1 p241 q241
     cases e241
     obtain ⟨ce241, hce241, hMe241, hcc241⟩ := Kd.S_get HO_11.out [] x13_1 p241 (by first | exact q241 | exact oD | (have e_ := (Kd.S_reads' HO_11.out).1; omega))
     obtain ⟨ve241_0, rfl, ge241_0⟩ := hMe241
     have hv241_0 := hcc241 0 _ rfl
     rw [Nat.add_zero, show ((Kd.slice 3 (Kd.int .i64))).sz = 1 from rfl, Nat.mul_one] at hv241_0
     replace hv241_0 := Option.some.inj (hv241_0.symm.trans hx241_0)
     rw [hv241_0] at ge241_0
     have HL241_0 := aM (show Kd.R (Kd.int .i64) 3 _ _ _ _ (rd_L2 t238 x13_1) from ge241_0)
     clear hv241_0 ge241_0; clear hcc241 hce241
     have HR241_0 := aM hi241_0
     have HC241_0 := aM hl241_0
     clear hi241_0 hl241_0; replace p241 := eq_true p241; replace q241 := eq_true q241
     go_wp2
     go_roundg k1
     case measure => have := HK1.out; omega
     case rel => exact ⟨(wrap64 (x4_1 + ((rd_L2 t238 x13_1).length : Int))), (wrap64 (x13_1 + 1)), rfl, rfl, H', ⟨by have := HK1.out; omega⟩, ⟨by (with_reducible repeat (first | apply Kd.S_alloc | apply Kd.S_drewN | apply Kd.S_drew)); exact HO_11.out⟩, HB⟩
    ·have c8b0 := decide_eq_false c8
     clear c8
     simp only [Option.some.injEq, Prod.mk.injEq] at H
     obtain ⟨rfl, rfl⟩ := H
     go_wp2
     go_ret2
     exact ⟨rfl, HB.out⟩
 ·replace c3 := Bool.eq_false_iff.mpr c3
  subst c3
  replace H := jF H
  simp only [Option.some.injEq, Prod.mk.injEq] at H
  obtain ⟨rfl, rfl⟩ := H
  go_enter Tryz.func9, Tryz.ntmps9
  go_wp2_with (first | ((with_reducible refine gC 18 rfl ?_); refine gL (some 8) Tryz.func18 #[.slice A0 l0.length c0] ?_; (with_reducible refine (impl_AreKeys.calls k _ _ l0 false _ ?side1 ?side2 A2.out).mono ?_); (case side1 => repeat (first | exact HR0.out | (with_reducible refine cA ?_ _) | (with_reducible refine cN ?_ _) | (with_reducible refine cD ?_))); (case side2 => exact HC0.out); rintro e w11 ⟨rfl, hb⟩; refine ⟨_, rfl, ?_⟩; replace HB := aM (below_step HB.out hb); (try clear hb)))
  go_ret2
  exact ⟨rfl, HB.out⟩

end Go.Proofs.YtbmbehkdidlolaaGreatDoor.PT
