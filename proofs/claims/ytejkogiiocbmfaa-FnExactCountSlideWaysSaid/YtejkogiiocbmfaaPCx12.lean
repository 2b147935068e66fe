-- written by a program of this session's (wip/tools), over the kit's print
import Derived.Test.YtejkogiiocbmfaaPCx0
import Derived.Test.YtejkogiiocbmfaaPCx9
import Derived.Test.YtejkogiiocbmfaaPCx11
-- squeezed
-- squeezed twice
namespace Go.Proofs.Ytejkogiiocbmfaa.PC
open Go.RowKit Go.Proofs.YtejkogiiocbmfaaW.PrintWords Go.Proofs.YtejkogiiocbmfaaW.PrintLast Go.Proofs.YtejkogiiocbmfaaW.PrintMore
attribute [local go_sem] max2_int min2_int max_two min_two max_three min_three max_four min_four   -- for this text's walks alone
set_option linter.unusedVariables false
set_option linter.unusedSimpArgs false

/-! ### impl_searched: function 89 (told by hand) -/
/-- What a search has found so far: the list, the map of the fewest moves, the map of the ways; all in blocks of the call's own. -/
structure impl_searched.St (w w' : World) (gb b1 b2 : Nat) (ok : Nat → Prop) (v : Value) (x : List ByteArray) (f g : ByteArray → Option Int) (c : Nat) : Prop where
 lst : Kd.R Kd.string 9 w' w.heap.size ok v x
 blk : w'.heap[gb]? = some (.cells #[v, .map (some b1), .map (some b2)] 80 (0, 0))
 far : MapS.M w' b1 c f
 way : MapS.M w' b2 c g
 ge : w.heap.size ≤ gb ∧ w.heap.size ≤ b1 ∧ w.heap.size ≤ b2 ∧ b1 ≠ b2
 bel : Below w.heap.size w w'
theorem impl_searched.St.below {w w' w2 : World} {gb b1 b2 : Nat} {ok : Nat → Prop} {v : Value} {x : List ByteArray} {f g : ByteArray → Option Int} {c : Nat} (h : impl_searched.St w w' gb b1 b2 ok v x f g c) (hb : Below w'.heap.size w' w2) : impl_searched.St w w2 gb b1 b2 ok v x f g c :=
 ⟨Kd.R_below h.lst hb, blk_below h.blk hb, MapS.M_below h.far hb, MapS.M_below h.way hb, h.ge, below_step h.bel hb⟩
theorem impl_searched.St.own {w w' : World} {gb b1 b2 : Nat} {ok : Nat → Prop} {v : Value} {x : List ByteArray} {f g : ByteArray → Option Int} {c n : Nat} {b : Nat} {q : ByteArray → Option Int} (h : impl_searched.St w w' gb b1 b2 ok v x f g c) (hM : MapS.M w' b n q) : some b ≠ v.ownBlock := fun e => by
 obtain ⟨cells, hc⟩ := Kd.R_typed h.lst b e.symm
 exact MapS.M_apart hM hc rfl
theorem impl_searched.St.more {w w' : World} {gb b1 b2 : Nat} {ok : Nat → Prop} {v : Value} {x : List ByteArray} {f g : ByteArray → Option Int} {c : Nat} (h : impl_searched.St w w' gb b1 b2 ok v x f g c) : impl_searched.St w w' gb b1 b2 ok v x f g (c + 1) :=
 ⟨h.lst, h.blk, MapS.M_mono h.far (Nat.le_succ _), MapS.M_mono h.way (Nat.le_succ _), h.ge, h.bel⟩
theorem impl_searched.St.put1 {w w' w2 : World} {gb b1 b2 : Nat} {ok : Nat → Prop} {v : Value} {x : List ByteArray} {f f2 g : ByteArray → Option Int} {c : Nat} (h : impl_searched.St w w' gb b1 b2 ok v x f g c) (hM : MapS.M w2 b1 (c + 1) f2) (hg : w'.grownBy w2 (some b1)) : impl_searched.St w w2 gb b1 b2 ok v x f2 g (c + 1) :=
 ⟨Kd.R_grown2 h.lst rfl hg (fun k hk => by cases hk; exact h.own h.far), blk_grown h.blk hg (fun e => MapS.M_apart h.far h.blk (Option.some.inj e)), hM, MapS.M_mono (MapS.M_grown h.way hg (fun e => h.ge.2.2.2 (Option.some.inj e).symm)) (Nat.le_succ _), h.ge, h.bel.grown hg h.bel.size (fun k hk => by cases hk; exact h.ge.2.1)⟩
theorem impl_searched.St.put2 {w w' w2 : World} {gb b1 b2 : Nat} {ok : Nat → Prop} {v : Value} {x : List ByteArray} {f g g2 : ByteArray → Option Int} {c : Nat} (h : impl_searched.St w w' gb b1 b2 ok v x f g c) (hM : MapS.M w2 b2 (c + 1) g2) (hg : w'.grownBy w2 (some b2)) : impl_searched.St w w2 gb b1 b2 ok v x f g2 (c + 1) :=
 ⟨Kd.R_grown2 h.lst rfl hg (fun k hk => by cases hk; exact h.own h.way), blk_grown h.blk hg (fun e => MapS.M_apart h.way h.blk (Option.some.inj e)), MapS.M_mono (MapS.M_grown h.far hg (fun e => h.ge.2.2.2 (Option.some.inj e))) (Nat.le_succ _), hM, h.ge, h.bel.grown hg h.bel.size (fun k hk => by cases hk; exact h.ge.2.2.1)⟩
theorem impl_searched.grown_set (W : World) (g i : Nat) (u : Value) : W.grownBy (W.setCell ⟨g, i, none⟩ u) (some g) :=
 ⟨rfl, rfl, rfl, by simp [World.setCell], fun k _ hk => Below.heap_setCell _ _ _ _ (fun e => hk (by rw [e]))⟩
/-- The list grown, its row put back into the struct. -/
theorem impl_searched.St.push {w w' w1 : World} {gb b1 b2 : Nat} {ok : Nat → Prop} {v v1 : Value} {x x1 : List ByteArray} {f g : ByteArray → Option Int} {c : Nat} (h : impl_searched.St w w' gb b1 b2 ok v x f g c) (ho : Kd.R Kd.string 9 w1 w.heap.size ok v1 x1) (hb : Below w.heap.size w w1) (hg : w'.grownBy w1 v.ownBlock) :
  impl_searched.St w (w1.setCell ⟨gb, 0, none⟩ v1) gb b1 b2 ok v1 x1 f g c := by
 have hk : w1.heap[gb]? = some (.cells #[v, .map (some b1), .map (some b2)] 80 (0, 0)) := blk_grown h.blk hg (Kd.R_ne h.lst h.blk (by decide))
 have h1 := MapS.M_grown h.far hg (h.own h.far)
 have h2 := MapS.M_grown h.way hg (h.own h.way)
 exact ⟨Kd.R_grown2 ho rfl (impl_searched.grown_set w1 gb 0 v1) (fun k hk2 => by cases hk2; exact Kd.R_ne ho hk (by decide)), blk_put hk 0 v1 rfl, MapS.M_set h1 _ _ (fun e => MapS.M_apart h1 hk e.symm), MapS.M_set h2 _ _ (fun e => MapS.M_apart h2 hk e.symm), h.ge, below_set hb h.ge.1⟩
/-- At most so many ways are held. -/
def impl_searched.cap (a : Int) : Int := if 1000000000000001 < a then 1000000000000001 else a
theorem impl_searched.cap_wf {a : Int} (h : (Lit.int .i64 a).wf = true) : (Lit.int .i64 (impl_searched.cap a)).wf = true := by
 unfold impl_searched.cap
 split
 ·decide
 ·exact h
mutual
def impl_searched.l0 (moves : Nat → ByteArray → Option (List ByteArray)) : Nat → List ByteArray → (ByteArray → Option Int) → (ByteArray → Option Int) → Nat → Int → Option (List ByteArray × (ByteArray → Option Int) × (ByteArray → Option Int))
 | 0, _, _, _, _, _ => none
 | k + 1, x, f, g, c, i => if i < (x.length : Int) then (if 0 ≤ i then ((moves k (rdOf ByteArray.empty x i)).bind fun ts => impl_searched.l1 moves k (rdOf ByteArray.empty x i) ts x f g c i 0) else none) else some (x, f, g)
def impl_searched.l1 (moves : Nat → ByteArray → Option (List ByteArray)) : Nat → ByteArray → List ByteArray → List ByteArray → (ByteArray → Option Int) → (ByteArray → Option Int) → Nat → Int → Int → Option (List ByteArray × (ByteArray → Option Int) × (ByteArray → Option Int))
 | 0, _, _, _, _, _, _, _, _ => none
 | k + 1, s, ts, x, f, g, c, i, j => if j < (ts.length : Int) then (if 0 ≤ j then (if s.size ≤ maxLen ∧ (rdOf ByteArray.empty ts j).size ≤ maxLen ∧ c < 4398046511104 ∧ x.length < 4398046511104 then
   (if (f (rdOf ByteArray.empty ts j)).isSome = true then
    (if (f (rdOf ByteArray.empty ts j)).getD 0 = wrap64 ((f s).getD 0 + 1)
     then impl_searched.l1 moves k s ts x f (MapS.upd g (rdOf ByteArray.empty ts j) (impl_searched.cap (wrap64 ((g (rdOf ByteArray.empty ts j)).getD 0 + (g s).getD 0)))) (c + 1) i (wrap64 (j + 1))
     else impl_searched.l1 moves k s ts x f g (c + 1) i (wrap64 (j + 1)))
   else
    (if wrap64 ((f s).getD 0 + 1) = wrap64 ((MapS.upd f (rdOf ByteArray.empty ts j) (wrap64 ((f s).getD 0 + 1)) s).getD 0 + 1)
     then impl_searched.l1 moves k s ts (x ++ [rdOf ByteArray.empty ts j]) (MapS.upd f (rdOf ByteArray.empty ts j) (wrap64 ((f s).getD 0 + 1))) (MapS.upd g (rdOf ByteArray.empty ts j) (impl_searched.cap (wrap64 ((g (rdOf ByteArray.empty ts j)).getD 0 + (g s).getD 0)))) (c + 1 + 1) i (wrap64 (j + 1))
     else impl_searched.l1 moves k s ts (x ++ [rdOf ByteArray.empty ts j]) (MapS.upd f (rdOf ByteArray.empty ts j) (wrap64 ((f s).getD 0 + 1))) g (c + 1 + 1) i (wrap64 (j + 1)))) else none) else none) else impl_searched.l0 moves k x f g c (wrap64 (i + 1))
end
def impl_searched.f (moves : Nat → ByteArray → Option (List ByteArray)) (k : Nat) (a0 : ByteArray) : Option (List ByteArray × (ByteArray → Option Int) × (ByteArray → Option Int)) := impl_searched.l0 moves k [a0] (MapS.upd (fun _ => none) a0 0) (MapS.upd (fun _ => none) a0 1) 1 0
theorem impl_searched.mono_l {moves : Nat → ByteArray → Option (List ByteArray)} (hr : ∀ x0 n, LeO (moves n x0) (moves (n + 1) x0)) : ∀ k, (∀ y0 y1 y2 y3 y4, LeO (impl_searched.l0 moves k y0 y1 y2 y3 y4) (impl_searched.l0 moves (k + 1) y0 y1 y2 y3 y4)) ∧ (∀ y0 y1 y2 y3 y4 y5 y6 y7, LeO (impl_searched.l1 moves k y0 y1 y2 y3 y4 y5 y6 y7) (impl_searched.l1 moves (k + 1) y0 y1 y2 y3 y4 y5 y6 y7))
 | 0 => ⟨fun _ _ _ _ _ r h => by simp [impl_searched.l0] at h, fun _ _ _ _ _ _ _ _ r h => by simp [impl_searched.l1] at h⟩
 | k + 1 => by
  obtain ⟨ih0, ih1⟩ := impl_searched.mono_l hr k
  refine ⟨?_, ?_⟩
  ·intro y0 y1 y2 y3 y4
   unfold impl_searched.l0
   repeat' first
   | (with_reducible exact ih1 _ _ _ _ _ _ _ _)
   | (with_reducible exact hr _ _)
   | (with_reducible exact LeO.refl _)
   | (with_reducible exact LeO.none _)
   | (with_reducible refine LeO.ite ?_ ?_)
   | (with_reducible refine LeO.bind ?_ (fun _ => ?_))
   | exact ih1 _ _ _ _ _ _ _ _
   | exact hr _ _
   | exact LeO.none _
   | refine LeO.ite ?_ ?_
   | refine LeO.bind ?_ (fun _ => ?_)
  ·intro y0 y1 y2 y3 y4 y5 y6 y7
   unfold impl_searched.l1
   repeat' first
   | (with_reducible exact ih1 _ _ _ _ _ _ _ _)
   | (with_reducible exact ih0 _ _ _ _ _)
   | (with_reducible exact LeO.refl _)
   | (with_reducible exact LeO.none _)
   | (with_reducible refine LeO.ite ?_ ?_)
   | exact ih1 _ _ _ _ _ _ _ _
   | exact ih0 _ _ _ _ _
   | exact LeO.none _
   | refine LeO.ite ?_ ?_
theorem impl_searched.mono {moves : Nat → ByteArray → Option (List ByteArray)} (hr : ∀ x0 n, LeO (moves n x0) (moves (n + 1) x0)) : ∀ a0 k, LeO (impl_searched.f moves k a0) (impl_searched.f moves (k + 1) a0) := fun _ k => (impl_searched.mono_l hr k).1 _ _ _ _ _
theorem impl_searched.goesV_ {ops : Array Oper} {rest : List Oper} {oi : Oper} {a : Act} {w : World} {Q : Exit → Act → World → Prop} {f : FuncId} {lb : Array Value} {as_ : Array Operand} {ts : Array TypeId} {v : Operand} (N : Option Tmp) (hd : oi.dst = N) (hg : oi.guard = none) (args : Array Value)
  (hop : oi.op = .call { callee := .value v, args := as_, argTypes := ts }) (hv : a.eval v = .func (.func f) #[] lb) (hargs : as_.map a.eval = args) (eg : Go.Proofs.Enters Try.prog f)
  (h : Calls Try.prog f (args ++ lb) w fun e w' => ∃ v, e = .returned v ∧ wpList Try.prog ops Q rest (a.put N v) w') : wpList Try.prog ops Q (oi :: rest) a w := by
 refine wpList_plain hg fun K hK => ?_
 have he := eg (args ++ lb) w
 have hrun : (execOp a.eval oi).run Try.prog w = .ok (.enter f (args ++ lb)) w := by
  unfold execOp
  simp [hop, resolve, Deferred.ofValue, invoke, hv, hargs, he]
 unfold Oper.wp
 rw [hrun, Oper.upon_enter]
 refine h.mono fun e w'' hh => ?_
 obtain ⟨v, rfl, hk⟩ := hh
 subst hd
 exact hK _ _ hk
set_option maxHeartbeats 8000000 in
set_option maxRecDepth 100000 in
theorem impl_searched.calls (gf : Nat) (lb : Array Value) (eg : Go.Proofs.Enters Try.prog gf) (moves : Nat → ByteArray → Option (List ByteArray)) (k : Nat) (a0 : ByteArray) (r : List ByteArray × (ByteArray → Option Int) × (ByteArray → Option Int)) (w : World) (hs : a0.size ≤ maxLen)
  (hp : ∀ (j : Nat) (x : ByteArray) (ts : List ByteArray) (W : World), Below w.heap.size w W → moves j x = some ts → Calls Try.prog gf (#[.string x] ++ lb) W fun e w' => ∃ v, e = .returned v ∧ Kd.R Kd.string 9 w' W.heap.size (fun _ => True) v ts ∧ Below W.heap.size W w')
  (h : impl_searched.f moves k a0 = some r) :
  Calls Try.prog 89 #[.string a0, .func (.func gf) #[] lb] w fun e w' => ∃ gb, e = .returned (.pointer (some ⟨gb, 0, none⟩)) ∧ ∃ b1 b2 v c, impl_searched.St w w' gb b1 b2 (fun _ => True) v r.1 r.2.1 r.2.2 c := by
 have hmm := @run_makeMap Try.prog
 have HP_ := aM hp
 clear hp
 have EG_ := aM eg
 clear eg
 have HS := aM hs
 clear hs
 have H' := aM (show impl_searched.l0 moves k [a0] (MapS.upd (fun _ => none) a0 0) (MapS.upd (fun _ => none) a0 1) 1 0 = some r from h)
 clear h
 go_enter Try.func89, Try.ntmps89
 go_wp2_with (first | ((with_reducible refine gate_dst (N := 13) rfl ?_); refine Kd.R_lit Kd.string _ 9 ?hg (N := 13) ?hd (xs := ([a0] : List ByteArray)) (inner := [.string a0]) (ok := fun _ => True) (okp := fun _ => True) ?hr ?hp (fun _ hk => hk) trivial (Below.refl _ _) (Nat.le_refl _) (by simp) ?_; (case hd => rfl); (case hg => rfl); (case hr => first | (go_simp; done) | (go_simp; rfl)); (case hp => exact (Reps.one (show Kd.M Kd.string _ _ _ a0 [.string a0] from rfl) (Reps.none _ _))); intro v1 w1 ho hb hg_ hnew_; clear hg_ hnew_; obtain ⟨A1, c1, eo⟩ := Kd.R_slice ho; subst eo; have HL := aM ho; have HB := aM hb; clear ho hb) | (refine MapS.upd_ (MapS.M_made _) (by decide) HS.out (c := 0) (by decide) rfl (.tmp 14) _ _ (Or.inr rfl) rfl rfl rfl ?_; intro w2 hM hg2; have HM1 := aM hM; have HG2 := aM hg2; clear hM hg2) | (refine MapS.upd_ (MapS.M_made _) (by decide) HS.out (c := 1) (by decide) rfl (.tmp 17) _ _ (Or.inr rfl) rfl rfl rfl ?_; intro w3 hM hg3; have HM2 := aM hM; have HG3 := aM hg3; clear hM hg3) | ((with_reducible refine gate_dst (N := 21) rfl ?_); refine box_event ?hg (N := 21) ?hd (cs := #[.slice A1 [a0].length c1, .map (some w1.heap.size), .map (some w2.heap.size)]) (t := 80) ?hr ?_; (case hd => rfl); (case hg => rfl); (case hr => first | (go_simp; done) | (go_simp; rfl)); intro gb hg4 w4 hbox hb4; have BK := aM hbox; have HB4 := aM hb4; have HG4 := aM hg4; clear hbox hb4 hg4))
 have S0 : impl_searched.St w w4 gb w1.heap.size w2.heap.size (fun _ => True) (.slice A1 [a0].length c1) [a0] (MapS.upd (fun _ => none) a0 0) (MapS.upd (fun _ => none) a0 1) 1 := by
  have hle : w.heap.size ≤ w1.heap.size := HB.out.size
  have hl1 : w1.heap.size < w2.heap.size := by have := HG2.out.size; simp at this; omega
  have hl2 : w2.heap.size ≤ w3.heap.size := by have := HG3.out.size; simp at this; omega
  have ha := Kd.R_grown2 (Kd.R_alloc HL.out (.map #[] 0)) rfl HG2.out (fun k hk => by cases hk; intro e; exact absurd (Kd.R_lt HL.out _ e.symm) (Nat.lt_irrefl _))
  have hb := Kd.R_grown2 (Kd.R_alloc ha (.map #[] 0)) rfl HG3.out (fun k hk => by cases hk; intro e; exact absurd (Kd.R_lt ha _ e.symm) (Nat.lt_irrefl _))
  have hm := MapS.M_grown (MapS.M_alloc HM1.out (.map #[] 0)) HG3.out (fun e => by have := Option.some.inj e; omega)
  have hB2 : Below w.heap.size w w2 := (below_alloc HB.out (.map #[] 0)).grown HG2.out (by simp; omega) (fun k hk => by cases hk; exact hle)
  have hB3 : Below w.heap.size w w3 := (below_alloc hB2 (.map #[] 0)).grown HG3.out (by simp; omega) (fun k hk => by cases hk; omega)
  exact ⟨Kd.R_below hb HB4.out, BK.out, MapS.M_below hm HB4.out, MapS.M_below HM2.out HB4.out, ⟨by rw [HG4.out]; omega, hle, by omega, by omega⟩, below_step hB3 HB4.out⟩
 have SS := aM S0
 clear S0 HL HB HM1 HM2 HG2 HG3 BK HB4 HG4
 generalize hn1 : w1.heap.size = b1 at SS ⊢
 generalize hn2 : w2.heap.size = b2 at SS ⊢
 clear hn1 hn2
 go_loopg [6] k (fun kq v6 w' => ∃ (v : Value) (x : List ByteArray) (f g : ByteArray → Option Int) (c : Nat) (i : Int), v6 = .int .i64 i ∧ Aside0 (impl_searched.l0 moves kq x f g c i = some r) ∧ Aside0 (kq ≤ k) ∧ Aside0 (impl_searched.St w w' gb b1 b2 (fun _ => True) v x f g c))
 case atStart => exact ⟨_, [a0], _, _, 1, 0, (by first | rfl | (simp; done) | (simp [*]; done)), H', ⟨Nat.le_refl _⟩, SS⟩
 case round =>
  clear H' SS
  obtain ⟨v, x, f, g, c, i, rfl, HA, HK1, SS⟩ := hrel
  cases gk with
  | zero => exact absurd HA.out (by simp [impl_searched.l0])
  | succ k1 =>
   have H := HA.out
   clear HA
   simp only [impl_searched.l0] at H
   obtain ⟨A2, c2, eo⟩ := Kd.R_slice SS.out.lst
   subst eo
   have hz0 : wr.cell? ⟨gb, 0, none⟩ = some (.slice A2 x.length c2) := (blk_cell SS.out.blk 0).trans rfl
   by_cases c5 : i < (x.length : Int)
   ·rw [if_pos c5] at H
    have c5b0 : decide (i < (x.length : Int)) = true := decide_eq_true c5
    clear c5
    by_cases c6 : 0 ≤ i
    ·rw [if_pos c6] at H
     have c6b0 : decide (0 ≤ i) = true := decide_eq_true c6
     clear c6
     obtain ⟨ts, A70, H⟩ := Option.bind_eq_some_iff.mp H
     have A7 := aM A70
     have H' := aM H
     clear A70 H
     have p1 : 0 ≤ (i : Int) := of_decide_eq_true (by assumption)
     have q1 : i < (x.length : Int) := of_decide_eq_true (by assumption)
     obtain ⟨ad1, e1, hx1⟩ := Kd.at_string (Kd.R_reads' SS.out.lst).2.2 i p1 q1
     cases e1
     replace p1 := eq_true p1
     replace q1 := eq_true q1
     generalize hs1 : rdOf ByteArray.empty x i = s1 at hx1 A7 H'
     clear hs1
     go_wp2_with (first | ((with_reducible refine gate_dst (N := 40) rfl ?_); refine impl_searched.goesV_ (f := gf) (lb := lb) (some 40) rfl rfl #[.string s1] rfl rfl (by (try simp only [List.map_toArray, List.map_cons, List.map_nil]); first | done | rfl) EG_.out ?_; (with_reducible refine (HP_.out k1 s1 ts _ SS.out.bel A7.out).mono ?_); rintro e w8 ⟨vt, rfl, ho, hb⟩; refine ⟨_, rfl, ?_⟩; obtain ⟨A3, c3, eo⟩ := Kd.R_slice ho; subst eo; have ST := aM (Kd.R_lower (Kd.R_new' ho (Kd.R_lt SS.out.lst)) SS.out.bel.size); have n0 := aM (show impl_searched.St w w8 gb b1 b2 (fun k => True ∧ some k ≠ (.slice A3 ts.length c3 : Value).ownBlock) (.slice (some ad1) x.length c2) x f g c from ⟨Kd.R_elder' SS.out.lst (Kd.R_base ho) hb, (SS.out.below hb).blk, (SS.out.below hb).far, (SS.out.below hb).way, SS.out.ge, (SS.out.below hb).bel⟩); clear SS; have SS := n0; clear n0 ho hb))
     clear hx1 hz0 p1 q1
     go_loopg [42] k1 (fun kq v42 w' => ∃ (v : Value) (x : List ByteArray) (f g : ByteArray → Option Int) (c : Nat) (j : Int), v42 = .int .i64 j ∧ Aside0 (impl_searched.l1 moves kq s1 ts x f g c i j = some r) ∧ Aside0 (kq ≤ k1) ∧ Aside0 (Kd.R Kd.string 9 w' w.heap.size (fun k => True ∧ some k ≠ v.ownBlock) (.slice A3 ts.length c3) ts) ∧ Aside0 (impl_searched.St w w' gb b1 b2 (fun k => True ∧ some k ≠ (.slice A3 ts.length c3 : Value).ownBlock) v x f g c))
     case atStart => exact ⟨_, x, f, g, c, 0, (by first | rfl | (simp; done) | (simp [*]; done)), H', ⟨Nat.le_refl _⟩, ST, SS⟩
     case round =>
      clear H' ST SS c5b0 c6b0 A7
      obtain ⟨v, x, f, g, c, j, rfl, HA, HK2, ST, SS⟩ := hrel
      cases gk with
      | zero => exact absurd HA.out (by simp [impl_searched.l1])
      | succ k2 =>
       have H := HA.out
       clear HA
       simp only [impl_searched.l1] at H
       by_cases c7 : j < (ts.length : Int)
       ·rw [if_pos c7] at H
        have c7b0 : decide (j < (ts.length : Int)) = true := decide_eq_true c7
        clear c7
        by_cases c8 : 0 ≤ j
        ·rw [if_pos c8] at H
         have c8b0 : decide (0 ≤ j) = true := decide_eq_true c8
         clear c8
         obtain ⟨A4, c4, eo⟩ := Kd.R_slice SS.out.lst
         subst eo
         have p2 : 0 ≤ (j : Int) := of_decide_eq_true (by assumption)
         have q2 : j < (ts.length : Int) := of_decide_eq_true (by assumption)
         obtain ⟨ad2, e2, hx2⟩ := Kd.at_string (Kd.R_reads' ST.out).2.2 j p2 q2
         cases e2
         replace p2 := eq_true p2
         replace q2 := eq_true q2
         generalize hs2 : rdOf ByteArray.empty ts j = t at hx2 H
         clear hs2
         by_cases c9 : s1.size ≤ maxLen ∧ t.size ≤ maxLen ∧ c < 4398046511104 ∧ x.length < 4398046511104
         ·rw [if_pos c9] at H
          have G9 := aM c9
          clear c9
          have hz0 : wr.cell? ⟨gb, 0, none⟩ = some (.slice A4 x.length c4) := (blk_cell SS.out.blk 0).trans rfl
          have hz1 : wr.cell? ⟨gb, 1, none⟩ = some (.map (some b1)) := (blk_cell SS.out.blk 1).trans rfl
          have hz2 : wr.cell? ⟨gb, 2, none⟩ = some (.map (some b2)) := (blk_cell SS.out.blk 2).trans rfl
          have hzf := blk_frozen SS.out.blk 0
          obtain ⟨n1, hn1⟩ : ∃ n, (f s1).getD 0 = n := ⟨_, rfl⟩
          obtain ⟨n2, hn2⟩ : ∃ n, (f t).getD 0 = n := ⟨_, rfl⟩
          have N1 := aM hn1
          have N2 := aM hn2
          by_cases c10 : (f t).isSome = true
          ·rw [if_pos c10, hn1, hn2] at H
           have F10 := aM c10
           clear c10 hn1 hn2
           by_cases c11 : n2 = wrap64 (n1 + 1)
           ·rw [if_pos c11] at H
            have c11b0 : (n2 == wrap64 (n1 + 1)) = true := beq_iff_eq.mpr c11
            clear c11
            obtain ⟨n3, hn3⟩ : ∃ n, (g t).getD 0 = n := ⟨_, rfl⟩
            obtain ⟨n4, hn4⟩ : ∃ n, (g s1).getD 0 = n := ⟨_, rfl⟩
            rw [hn3, hn4] at H
            have H' := aM H
            clear H
            go_wp2_with (first | (at_lookup; refine MapS.look2_v SS.out.far N2.out F10.out G9.out.2.1 rfl _ _ rfl rfl rfl ?_) | (at_lookup; refine MapS.look_v SS.out.far N1.out G9.out.1 rfl _ _ rfl rfl rfl ?_))
            have hl3 := MapS.M_look (MapS.M_drew SS.out.way) t G9.out.2.1
            have hl4 := MapS.M_look (MapS.M_drew SS.out.way) s1 G9.out.1
            rw [hn3] at hl3
            rw [hn4] at hl4
            clear hn3 hn4
            obtain ⟨w9, hput, hM, hg9⟩ := MapS.M_put (MapS.M_drew SS.out.way) (Nat.lt_of_lt_of_le G9.out.2.2.1 (by decide)) t G9.out.2.1 (impl_searched.cap (wrap64 (n3 + n4))) (impl_searched.cap_wf (wrap64_wf _))
            simp only [impl_searched.cap] at hput
            have SD := SS.out.below (Below.refl _ _).drew
            have n0 := aM (SD.put2 hM hg9)
            have n9 := aM (Kd.R_grown2 (Kd.R_drew ST.out) rfl hg9 (fun k hk => by cases hk; intro e; obtain ⟨cells, hc⟩ := Kd.R_typed ST.out _ e.symm; exact MapS.M_apart SS.out.way hc rfl))
            clear hM hg9 SD
            go_region
            all_goals go_wp2
            all_goals (go_roundg k2; (case measure => have := HK1.out; have := HK2.out; omega); (case rel => exact ⟨_, _, _, _, _, (wrap64 (j + 1)), (by first | rfl | (simp; done) | (simp [*]; done)), H', ⟨by have := HK1.out; have := HK2.out; omega⟩, n9, n0⟩))
           ·rw [if_neg c11] at H
            have c11b0 : (n2 == wrap64 (n1 + 1)) = false := beq_eq_false_iff_ne.mpr c11
            clear c11
            have H' := aM H
            clear H
            go_wp2_with (first | (at_lookup; refine MapS.look2_v SS.out.far N2.out F10.out G9.out.2.1 rfl _ _ rfl rfl rfl ?_) | (at_lookup; refine MapS.look_v SS.out.far N1.out G9.out.1 rfl _ _ rfl rfl rfl ?_))
            go_roundg k2
            case measure => have := HK1.out; have := HK2.out; omega
            case rel => exact ⟨_, x, f, g, c + 1, (wrap64 (j + 1)), (by first | rfl | (simp; done) | (simp [*]; done)), H', ⟨by have := HK1.out; have := HK2.out; omega⟩, ST, ⟨SS.out.more⟩⟩
          ·rw [if_neg c10, hn1] at H
           have F10 := aM (Bool.eq_false_iff.mpr c10)
           clear c10 hn1 hn2
           obtain ⟨n5, hn5⟩ : ∃ n, (MapS.upd f t (wrap64 (n1 + 1)) s1).getD 0 = n := ⟨_, rfl⟩
           rw [hn5] at H
           have N5 := aM hn5
           clear hn5
           obtain ⟨y, hy⟩ : ∃ y : List ByteArray, y = x ++ [t] := ⟨_, rfl⟩
           rw [← hy] at H
           have NY := aM hy
           clear hy
           by_cases c11 : wrap64 (n1 + 1) = wrap64 (n5 + 1)
           ·rw [if_pos c11] at H
            have c11b0 : (wrap64 (n1 + 1) == wrap64 (n5 + 1)) = true := beq_iff_eq.mpr c11
            clear c11
            obtain ⟨n3, hn3⟩ : ∃ n, (g t).getD 0 = n := ⟨_, rfl⟩
            obtain ⟨n4, hn4⟩ : ∃ n, (g s1).getD 0 = n := ⟨_, rfl⟩
            rw [hn3, hn4] at H
            have H' := aM H
            clear H
            go_wp2_with (first | (at_lookup; refine MapS.look2_v SS.out.far N2.out F10.out G9.out.2.1 rfl _ _ rfl rfl rfl ?_) | (at_lookup; refine MapS.look_v SS.out.far N1.out G9.out.1 rfl _ _ rfl rfl rfl ?_) | (at_lookup; refine MapS.look_v SS.out.far N5.out G9.out.1 rfl _ _ rfl rfl rfl ?_) | (at_mapUpdate; refine MapS.upd_ SS.out.far (Nat.lt_of_lt_of_le G9.out.2.2.1 (by decide)) G9.out.2.1 (c := wrap64 (n1 + 1)) (wrap64_wf _) rfl (.tmp 67) _ _ (Or.inl rfl) rfl rfl rfl ?_; intro w5 hM hg5; have m0 := aM (SS.out.put1 hM hg5); have m1 := aM (Kd.R_grown2 ST.out rfl hg5 (fun k hk => by cases hk; intro e; obtain ⟨cells, hc⟩ := Kd.R_typed ST.out _ e.symm; exact MapS.M_apart SS.out.far hc rfl)); clear SS ST hz0 hz1 hz2 hzf hM hg5; have SS := m0; have ST := m1; clear m0 m1; have hz0 : w5.cell? ⟨gb, 0, none⟩ = some (.slice A4 x.length c4) := (blk_cell SS.out.blk 0).trans rfl) | ((with_reducible refine gate_builtin (b := .append) (xs := #[.tmp 74, .tmp 76]) rfl ?_); at_builtin; refine Kd.R_append Kd.string (w0 := w) w.heap.size rfl (.tmp 74) (.tmp 76) 75 9 (.string ⟨#[]⟩) 16 rfl Try.underlying75 info9 rfl (by decide) (by omega) (.slice A4 x.length c4) x t [.string t] (fun k => True ∧ some k ≠ (.slice (some ad2) ts.length c3 : Value).ownBlock) (fun _ => False) rfl rfl ?aP (fun _ hk => hk.elim) ?aF ?aO ?aB ?aS ?aL ?_; (case aP => exact rfl); (case aB => exact SS.out.bel); (case aF => exact fun k hk => ⟨trivial, fun e => absurd (Kd.R_lt ST.out k e.symm) (Nat.not_lt.2 hk)⟩); (case aO => exact SS.out.lst); (case aS => exact SS.out.bel.size); (case aL => have := G9.out.2.2.2; omega); intro v6 w6 ho hb hg hat; rw [← NY.out] at ho; obtain ⟨A6, c6, eo⟩ := Kd.R_slice ho; subst eo; have HO6 := aM ho; have HB6 := aM hb; have HG6 := aM hg; have ST6 := aM (Kd.R_after ST.out hg hat); have BK6 := aM (blk_grown SS.out.blk hg (Kd.R_ne SS.out.lst SS.out.blk (by decide))); clear ho hb hg hat ST hz0; have hz0 : w6.cell? ⟨gb, 0, none⟩ = some (.slice A4 x.length c4) := (blk_cell BK6.out 0).trans rfl; have hzf := blk_frozen BK6.out 0) | ((with_reducible refine gate_store (t := 75) (p := 79) rfl ?_); refine store_event (t := 75) (p := 79) (v := ?vo) (w1 := (w6.setCell ⟨gb, 0, none⟩ (.slice A6 y.length c6))) ?hg ?ho ?hn ?hr ?_; (case ho => rfl); (case hg => rfl); (case hn => rfl); (case hr => first | (go_simp; done) | (go_simp; rfl)); intro w7 hw; have m0 := SS.out.push HO6.out HB6.out HG6.out; rw [← hw] at m0; have m0 := aM m0; have m1 := Kd.R_grown2 ST6.out rfl (impl_searched.grown_set w6 gb 0 (.slice A6 y.length c6)) (fun k hk => by cases hk; exact Kd.R_ne ST6.out BK6.out (by decide)); rw [← hw] at m1; have m1 := aM m1; clear SS ST6 HO6 HB6 HG6 BK6 hz0 hzf hw; have SS := m0; have ST := m1; clear m0 m1; have hz1 : w7.cell? ⟨gb, 1, none⟩ = some (.map (some b1)) := (blk_cell SS.out.blk 1).trans rfl; have hz2 : w7.cell? ⟨gb, 2, none⟩ = some (.map (some b2)) := (blk_cell SS.out.blk 2).trans rfl))
            have hl3 := MapS.M_look (MapS.M_drew SS.out.way) t G9.out.2.1
            have hl4 := MapS.M_look (MapS.M_drew SS.out.way) s1 G9.out.1
            rw [hn3] at hl3
            rw [hn4] at hl4
            clear hn3 hn4
            obtain ⟨w9, hput, hM, hg9⟩ := MapS.M_put (MapS.M_drew SS.out.way) (Nat.lt_of_lt_of_le (Nat.succ_lt_succ G9.out.2.2.1) (by decide)) t G9.out.2.1 (impl_searched.cap (wrap64 (n3 + n4))) (impl_searched.cap_wf (wrap64_wf _))
            simp only [impl_searched.cap] at hput
            have SD := SS.out.below (Below.refl _ _).drew
            have n0 := aM (SD.put2 hM hg9)
            have n9 := aM (Kd.R_grown2 (Kd.R_drew ST.out) rfl hg9 (fun k hk => by cases hk; intro e; obtain ⟨cells, hc⟩ := Kd.R_typed ST.out _ e.symm; exact MapS.M_apart SS.out.way hc rfl))
            clear hM hg9 SD
            go_region
            all_goals go_wp2
            all_goals (go_roundg k2; (case measure => have := HK1.out; have := HK2.out; omega); (case rel => exact ⟨_, _, _, _, _, (wrap64 (j + 1)), (by first | rfl | (simp; done) | (simp [*]; done)), H', ⟨by have := HK1.out; have := HK2.out; omega⟩, n9, n0⟩))
           ·rw [if_neg c11] at H
            have c11b0 : (wrap64 (n1 + 1) == wrap64 (n5 + 1)) = false := beq_eq_false_iff_ne.mpr c11
            clear c11
            have H' := aM H
            clear H
            go_wp2_with (first | (at_lookup; refine MapS.look2_v SS.out.far N2.out F10.out G9.out.2.1 rfl _ _ rfl rfl rfl ?_) | (at_lookup; refine MapS.look_v SS.out.far N1.out G9.out.1 rfl _ _ rfl rfl rfl ?_) | (at_lookup; refine MapS.look_v SS.out.far N5.out G9.out.1 rfl _ _ rfl rfl rfl ?_) | (at_mapUpdate; refine MapS.upd_ SS.out.far (Nat.lt_of_lt_of_le G9.out.2.2.1 (by decide)) G9.out.2.1 (c := wrap64 (n1 + 1)) (wrap64_wf _) rfl (.tmp 67) _ _ (Or.inl rfl) rfl rfl rfl ?_; intro w5 hM hg5; have m0 := aM (SS.out.put1 hM hg5); have m1 := aM (Kd.R_grown2 ST.out rfl hg5 (fun k hk => by cases hk; intro e; obtain ⟨cells, hc⟩ := Kd.R_typed ST.out _ e.symm; exact MapS.M_apart SS.out.far hc rfl)); clear SS ST hz0 hz1 hz2 hzf hM hg5; have SS := m0; have ST := m1; clear m0 m1; have hz0 : w5.cell? ⟨gb, 0, none⟩ = some (.slice A4 x.length c4) := (blk_cell SS.out.blk 0).trans rfl) | ((with_reducible refine gate_builtin (b := .append) (xs := #[.tmp 74, .tmp 76]) rfl ?_); at_builtin; refine Kd.R_append Kd.string (w0 := w) w.heap.size rfl (.tmp 74) (.tmp 76) 75 9 (.string ⟨#[]⟩) 16 rfl Try.underlying75 info9 rfl (by decide) (by omega) (.slice A4 x.length c4) x t [.string t] (fun k => True ∧ some k ≠ (.slice (some ad2) ts.length c3 : Value).ownBlock) (fun _ => False) rfl rfl ?aP (fun _ hk => hk.elim) ?aF ?aO ?aB ?aS ?aL ?_; (case aP => exact rfl); (case aB => exact SS.out.bel); (case aF => exact fun k hk => ⟨trivial, fun e => absurd (Kd.R_lt ST.out k e.symm) (Nat.not_lt.2 hk)⟩); (case aO => exact SS.out.lst); (case aS => exact SS.out.bel.size); (case aL => have := G9.out.2.2.2; omega); intro v6 w6 ho hb hg hat; rw [← NY.out] at ho; obtain ⟨A6, c6, eo⟩ := Kd.R_slice ho; subst eo; have HO6 := aM ho; have HB6 := aM hb; have HG6 := aM hg; have ST6 := aM (Kd.R_after ST.out hg hat); have BK6 := aM (blk_grown SS.out.blk hg (Kd.R_ne SS.out.lst SS.out.blk (by decide))); clear ho hb hg hat ST hz0; have hz0 : w6.cell? ⟨gb, 0, none⟩ = some (.slice A4 x.length c4) := (blk_cell BK6.out 0).trans rfl; have hzf := blk_frozen BK6.out 0) | ((with_reducible refine gate_store (t := 75) (p := 79) rfl ?_); refine store_event (t := 75) (p := 79) (v := ?vo) (w1 := (w6.setCell ⟨gb, 0, none⟩ (.slice A6 y.length c6))) ?hg ?ho ?hn ?hr ?_; (case ho => rfl); (case hg => rfl); (case hn => rfl); (case hr => first | (go_simp; done) | (go_simp; rfl)); intro w7 hw; have m0 := SS.out.push HO6.out HB6.out HG6.out; rw [← hw] at m0; have m0 := aM m0; have m1 := Kd.R_grown2 ST6.out rfl (impl_searched.grown_set w6 gb 0 (.slice A6 y.length c6)) (fun k hk => by cases hk; exact Kd.R_ne ST6.out BK6.out (by decide)); rw [← hw] at m1; have m1 := aM m1; clear SS ST6 HO6 HB6 HG6 BK6 hz0 hzf hw; have SS := m0; have ST := m1; clear m0 m1; have hz1 : w7.cell? ⟨gb, 1, none⟩ = some (.map (some b1)) := (blk_cell SS.out.blk 1).trans rfl; have hz2 : w7.cell? ⟨gb, 2, none⟩ = some (.map (some b2)) := (blk_cell SS.out.blk 2).trans rfl))
            go_roundg k2
            case measure => have := HK1.out; have := HK2.out; omega
            case rel => exact ⟨_, _, _, _, _, (wrap64 (j + 1)), (by first | rfl | (simp; done) | (simp [*]; done)), H', ⟨by have := HK1.out; have := HK2.out; omega⟩, ST, ⟨SS.out.more⟩⟩
         ·rw [if_neg c9] at H
          exact absurd H (by simp)
        ·rw [if_neg c8] at H
         exact absurd H (by simp)
       ·rw [if_neg c7] at H
        have c7b0 : decide (j < (ts.length : Int)) = false := decide_eq_false c7
        clear c7
        have H' := aM H
        clear H
        go_wp2
        go_roundg k2
        case measure => have := HK1.out; have := HK2.out; omega
        case rel => exact ⟨v, x, f, g, c, (wrap64 (i + 1)), (by first | rfl | (simp; done) | (simp [*]; done)), H', ⟨by have := HK1.out; have := HK2.out; omega⟩, ⟨⟨Kd.R_mono SS.out.lst (fun _ _ => trivial), SS.out.blk, SS.out.far, SS.out.way, SS.out.ge, SS.out.bel⟩⟩⟩
    ·rw [if_neg c6] at H
     exact absurd H (by simp)
   ·rw [if_neg c5] at H
    have c5b0 : decide (i < (x.length : Int)) = false := decide_eq_false c5
    clear c5
    obtain rfl := Option.some.inj H
    go_wp2
    go_ret
    exact ⟨gb, rfl, b1, b2, _, c, SS.out⟩

/-! ### impl_Bolts_slid: function 51 (told by hand) -/
/-- A text with one byte slid by 1 or -1. -/
def impl_Bolts_slid.out (s : ByteArray) (i : Nat) (by_ : Int) : ByteArray := ⟨(s.data.toList.set i (UInt8.ofNat (((s.data.toList.getD i 0).toNat + (if by_ = 1 then 1 else 255)) % 256))).toArray⟩
def impl_Bolts_slid.f (k : Nat) (l0_0 : List Int) (l0_1 : List S111) (a1 : ByteArray) (a2_0 a2_1 : Int) : Option (ByteArray × Bool) :=
 (impl_in.f a2_0 0 (wrap64 ((a1.size : Int) - 1))).bind fun t => if t = true then (if a2_1 = 1 ∨ a2_1 = -1 then (if 0 ≤ a2_0 ∧ a2_0 < (a1.size : Int) ∧ a1.size ≤ 4611686018427387904 then
  ((impl_Bolts_isState.f k l0_0 l0_1 (impl_Bolts_slid.out a1 a2_0.toNat a2_1)).bind fun a => if a = true then ((impl_Bolts_allowed.f k l0_0 l0_1 (impl_Bolts_slid.out a1 a2_0.toNat a2_1)).bind fun b => some (impl_Bolts_slid.out a1 a2_0.toNat a2_1, b)) else some (impl_Bolts_slid.out a1 a2_0.toNat a2_1, false)) else none) else some (⟨#[]⟩, false)) else some (⟨#[]⟩, false)
theorem impl_Bolts_slid.mono : ∀ a0 a1 a2 a3 a4 k, LeO (impl_Bolts_slid.f k a0 a1 a2 a3 a4) (impl_Bolts_slid.f (k + 1) a0 a1 a2 a3 a4) := fun _ _ _ _ _ k =>
 LeO.bind (LeO.refl _) (fun _ => LeO.ite (LeO.ite (LeO.ite (LeO.bind (impl_Bolts_isState.mono _ _ _ _) (fun _ => LeO.ite (LeO.bind (impl_Bolts_allowed.mono _ _ _ _) (fun _ => LeO.refl _)) (LeO.refl _))) (LeO.refl _)) (LeO.refl _)) (LeO.refl _))
theorem impl_Bolts_slid.conv (w7 : World) (a1 : ByteArray) (i : Nat) (hi : i < a1.size) (v : UInt8) : ∃ (W1 : World) (cap : Nat), (convert 9 58 (.string a1)).run Try.prog w7 = .ok (.slice (some ⟨w7.heap.size, 0, none⟩) a1.size cap) W1 ∧ Below w7.heap.size w7 W1 ∧ W1.frozen? ⟨w7.heap.size, i, none⟩ = false ∧
  W1.cell? ⟨w7.heap.size, i, none⟩ = some (.int .u8 (a1.data.toList.getD i 0).toNat) ∧ (convert 58 9 (.slice (some ⟨w7.heap.size, 0, none⟩) a1.size cap)).run Try.prog ((W1.setCell ⟨w7.heap.size, i, none⟩ (.int .u8 (v.toNat : Int))).drew) = .ok (.string ⟨(a1.data.toList.set i v).toArray⟩) ((W1.setCell ⟨w7.heap.size, i, none⟩ (.int .u8 (v.toNat : Int))).drew) := by
 have hcells : ∀ j, j < a1.size → (Lib.bytesWorld w7 5 a1).cell? ⟨w7.heap.size, j, none⟩ = some (.int .u8 (a1.data.toList.getD j 0).toNat) := fun j hj => Lib.bytesWorld_cell w7 5 a1 j hj
 have hat := Lib.bytesWorld_at_new w7 5 a1
 refine ⟨Lib.bytesWorld w7 5 a1, grownCap w7 a1.size 0 5, Lib.run_convert_string_bytes (P := Try.prog) w7 9 58 5 a1 Try.underlying9 Try.underlying58 Try.underlying5, bytes_below (Below.refl _ _) (Nat.le_refl _) 5 a1, ?_, hcells i hi, ?_⟩
 ·have hs : a1.size ≤ (Lib.bytesCells w7 5 a1).size := by simp [Lib.bytesCells, Array.size_append]
  simp [World.frozen?, hat]
  omega
 ·generalize grownCap w7 a1.size 0 5 = cap
  generalize Lib.bytesWorld w7 5 a1 = W1 at hcells
  have hl : (a1.data.toList.set i v).length = a1.size := by rw [List.length_set, Array.length_toList]; rfl
  have h := run_convert_bytes_back (P := Try.prog) ((W1.setCell ⟨w7.heap.size, i, none⟩ (.int .u8 (v.toNat : Int))).drew) 58 9 5 ⟨w7.heap.size, 0, none⟩ cap (a1.data.toList.set i v) Try.underlying58 Try.underlying5 Try.underlying9 (fun j hj => by
   rw [hl] at hj
   rw [add_plain, List.getElem_set]
   by_cases e : i = j
   ·subst e
    rw [if_pos rfl]
    exact World.cell?_setCell_same W1 _ _ (hcells i hi)
   ·rw [if_neg e]
    refine (World.cell?_setCell_other W1 _ _ _ (by intro h; injection h with _ h2 _; exact e h2)).trans ((hcells j hj).trans ?_)
    have hl2 : j < a1.data.toList.length := by rw [Array.length_toList]; exact hj
    simp [List.getD, List.getElem?_eq_getElem hl2])
  rw [hl] at h
  exact h
set_option maxHeartbeats 8000000 in
set_option maxRecDepth 100000 in
theorem impl_Bolts_slid.calls (k : Nat) (A0_0 : Option Addr) (c0_0 : Nat) (l0_0 : List Int) (A0_1 : Option Addr) (c0_1 : Nat) (l0_1 : List (S111)) (a1 : ByteArray) (a2_0 : Int) (a2_1 : Int) (r1 : ByteArray) (r2 : Bool) (w : World) (hr0_0 : Kd.C (Kd.int .i64) w A0_0 l0_0.length l0_0) (hc0_0 : l0_0.length ≤ c0_0) (hr0_1 : Kd.C k111 w A0_1 l0_1.length l0_1) (hc0_1 : l0_1.length ≤ c0_1) (h : impl_Bolts_slid.f k l0_0 l0_1 a1 a2_0 a2_1 = some (r1, r2)) :
  Calls Try.prog 51 #[.agg #[.slice A0_0 l0_0.length c0_0, .slice A0_1 l0_1.length c0_1], .string a1, .agg #[.int .i64 a2_0, .int .i64 a2_1]] w fun e w' => e = .returned (.tuple #[.string r1, .bool r2]) ∧ Below w.heap.size w w' := by
 have hu1 := Try.underlying33
 have hu2 := Try.underlying35
 unfold impl_Bolts_slid.f at h
 obtain ⟨t, A1_, h⟩ := Option.bind_eq_some_iff.mp h
 have HR0 := aM hr0_0
 have HR1 := aM hr0_1
 have HC0 := aM hc0_0
 have HC1 := aM hc0_1
 have HA := aM A1_
 clear hr0_0 hr0_1 hc0_0 hc0_1 A1_
 cases t with
 | false =>
  rw [if_neg (by simp)] at h
  simp only [Option.some.injEq, Prod.mk.injEq] at h
  obtain ⟨rfl, rfl⟩ := h
  go_enter Try.func51, Try.ntmps51
  go_wp2_with (first | ((with_reducible refine gate_dst (N := 3) rfl ?_); refine box_event ?hg (N := 3) ?hd (cs := #[.slice A0_0 l0_0.length c0_0, .slice A0_1 l0_1.length c0_1]) (t := 33) ?hr ?_; (case hd => rfl); (case hg => rfl); (case hr => first | (go_simp; done) | (go_simp; rfl)); intro gb hg w5 hbox hb; have HB := aM hb; have BK := aM hbox; have GE := aM (show w.heap.size ≤ gb by rw [hg]; exact Nat.le_refl _); clear hb hbox hg) | ((with_reducible refine gate_dst (N := 5) rfl ?_); refine box_event ?hg (N := 5) ?hd (cs := #[.int .i64 a2_0, .int .i64 a2_1]) (t := 35) ?hr ?_; (case hd => rfl); (case hg => rfl); (case hr => first | (go_simp; done) | (go_simp; rfl)); intro gs hg w6 hbox hb; have n0 := aM (below_step HB.out hb); have n1 := aM (blk_below (g := gb) (o := .cells #[.slice A0_0 l0_0.length c0_0, .slice A0_1 l0_1.length c0_1] 33 (0, 0)) BK.out hb); clear HB BK; have HB := n0; have BK := n1; have BS := aM hbox; have hy0 : w6.cell? ⟨gs, 0, none⟩ = some (.int .i64 a2_0) := (blk_cell hbox 0).trans rfl; have hy1 : w6.cell? ⟨gs, 1, none⟩ = some (.int .i64 a2_1) := (blk_cell hbox 1).trans rfl; clear hb hbox hg n0 n1) | (go_at_call 87; (with_reducible refine (impl_in.calls a2_0 0 (wrap64 ((a1.size : Int) - 1)) false _ HA.out).mono ?_); rintro e w' ⟨rfl, ⟨nd, rfl⟩⟩))
  go_ret2
  exact ⟨rfl, by repeat (first | exact HB.out | apply pw_below_drewN)⟩
 | true =>
  rw [if_pos rfl] at h
  by_cases c1 : ¬ (a2_1 = 1 ∨ a2_1 = -1)
  ·rw [if_neg c1] at h
   simp only [Option.some.injEq, Prod.mk.injEq] at h
   obtain ⟨rfl, rfl⟩ := h
   have d1 : (a2_1 != 1) = true := by simp; omega
   have d2 : (a2_1 != -1) = true := by simp; omega
   go_enter Try.func51, Try.ntmps51
   go_wp2_with (first | ((with_reducible refine gate_dst (N := 3) rfl ?_); refine box_event ?hg (N := 3) ?hd (cs := #[.slice A0_0 l0_0.length c0_0, .slice A0_1 l0_1.length c0_1]) (t := 33) ?hr ?_; (case hd => rfl); (case hg => rfl); (case hr => first | (go_simp; done) | (go_simp; rfl)); intro gb hg w5 hbox hb; have HB := aM hb; have BK := aM hbox; have GE := aM (show w.heap.size ≤ gb by rw [hg]; exact Nat.le_refl _); clear hb hbox hg) | ((with_reducible refine gate_dst (N := 5) rfl ?_); refine box_event ?hg (N := 5) ?hd (cs := #[.int .i64 a2_0, .int .i64 a2_1]) (t := 35) ?hr ?_; (case hd => rfl); (case hg => rfl); (case hr => first | (go_simp; done) | (go_simp; rfl)); intro gs hg w6 hbox hb; have n0 := aM (below_step HB.out hb); have n1 := aM (blk_below (g := gb) (o := .cells #[.slice A0_0 l0_0.length c0_0, .slice A0_1 l0_1.length c0_1] 33 (0, 0)) BK.out hb); clear HB BK; have HB := n0; have BK := n1; have BS := aM hbox; have hy0 : w6.cell? ⟨gs, 0, none⟩ = some (.int .i64 a2_0) := (blk_cell hbox 0).trans rfl; have hy1 : w6.cell? ⟨gs, 1, none⟩ = some (.int .i64 a2_1) := (blk_cell hbox 1).trans rfl; clear hb hbox hg n0 n1) | (go_at_call 87; (with_reducible refine (impl_in.calls a2_0 0 (wrap64 ((a1.size : Int) - 1)) true _ HA.out).mono ?_); rintro e w' ⟨rfl, ⟨nd, rfl⟩⟩))
   go_ret2
   exact ⟨rfl, by repeat (first | exact HB.out | apply pw_below_drewN)⟩
  ·replace c1 := Decidable.not_not.mp c1
   rw [if_pos c1] at h
   by_cases c2 : ¬ (0 ≤ a2_0 ∧ a2_0 < (a1.size : Int) ∧ a1.size ≤ 4611686018427387904)
   ·rw [if_neg c2] at h; exact absurd h (by simp)
   replace c2 := Decidable.not_not.mp c2
   rw [if_pos c2] at h
   obtain ⟨c2a, c2b, c2c⟩ := c2
   obtain ⟨i, rfl⟩ : ∃ i : Nat, a2_0 = (i : Int) := ⟨a2_0.toNat, by omega⟩
   have hi : i < a1.size := by omega
   have e1 : (i : Int).toNat = i := rfl
   rw [e1] at h
   obtain ⟨b, hb⟩ : ∃ b : UInt8, b = a1.data.toList.getD i 0 := ⟨_, rfl⟩
   obtain ⟨v, hv⟩ : ∃ v : UInt8, v = UInt8.ofNat ((b.toNat + (if a2_1 = 1 then 1 else 255)) % 256) := ⟨_, rfl⟩
   have hout : impl_Bolts_slid.out a1 i a2_1 = ⟨(a1.data.toList.set i v).toArray⟩ := by rw [hv, hb]; rfl
   have hvn : (v.toNat : Int) = ((b.toNat : Int) + a2_1) % 256 := by
    rw [hv]
    have := b.toNat_lt
    rcases c1 with rfl | rfl
    ·simp
    ·simp; omega
   have hvw : IntKind.u8.wrap ((b.toNat : Int) + IntKind.u8.wrap a2_1) = (v.toNat : Int) := by
    rw [hvn]
    simp [IntKind.wrap, IntKind.bits, IntKind.signed]
   have hvm : ((b.toNat : Int) + a2_1 % 256) % 256 = (v.toNat : Int) := by rw [hvn]; simp
   have hvm2 : ((b.toNat : Int) + a2_1) % 256 = (v.toNat : Int) := hvn.symm
   rw [hout] at h
   clear hout hvn hv
   generalize hO : (⟨(a1.data.toList.set i v).toArray⟩ : ByteArray) = out at h
   obtain ⟨a, A3_, h⟩ := Option.bind_eq_some_iff.mp h
   have HA3 := aM A3_
   have HH := aM h
   have HI := aM hi
   have HV := aM (And.intro hvw hvm2)
   have HVM := aM hvm
   have HO := aM hO
   have HBB := aM hb
   have C1 := aM c1
   clear A3_ h hvw hvm hvm2 hO hb c2c
   have c2d := decide_eq_true c2a
   have c2e := decide_eq_true c2b
   have G1 : Aside0 ((a2_1 != 1) = true → (a2_1 != -1) = false) := ⟨by rcases C1.out with rfl | rfl <;> simp⟩
   cases d1 : (a2_1 != 1) with
   | true =>
    have d2 : (a2_1 != -1) = false := G1.out d1
    have d2 : (a2_1 != -1) = false := G1.out d1
    cases a with
    | false =>
     have h := HH.out
     rw [if_neg (by simp)] at h
     simp only [Option.some.injEq, Prod.mk.injEq] at h
     obtain ⟨rfl, rfl⟩ := h
     go_enter Try.func51, Try.ntmps51
     go_wp2_with (first | ((with_reducible refine gate_dst (N := 3) rfl ?_); refine box_event ?hg (N := 3) ?hd (cs := #[.slice A0_0 l0_0.length c0_0, .slice A0_1 l0_1.length c0_1]) (t := 33) ?hr ?_; (case hd => rfl); (case hg => rfl); (case hr => first | (go_simp; done) | (go_simp; rfl)); intro gb hg w5 hbox hb; have HB := aM hb; have BK := aM hbox; have GE := aM (show w.heap.size ≤ gb by rw [hg]; exact Nat.le_refl _); clear hb hbox hg) | ((with_reducible refine gate_dst (N := 5) rfl ?_); refine box_event ?hg (N := 5) ?hd (cs := #[.int .i64 (i : Int), .int .i64 a2_1]) (t := 35) ?hr ?_; (case hd => rfl); (case hg => rfl); (case hr => first | (go_simp; done) | (go_simp; rfl)); intro gs hg w6 hbox hb; have n0 := aM (below_step HB.out hb); have n1 := aM (blk_below (g := gb) (o := .cells #[.slice A0_0 l0_0.length c0_0, .slice A0_1 l0_1.length c0_1] 33 (0, 0)) BK.out hb); clear HB BK; have HB := n0; have BK := n1; have BS := aM hbox; have hy0 : w6.cell? ⟨gs, 0, none⟩ = some (.int .i64 (i : Int)) := (blk_cell hbox 0).trans rfl; have hy1 : w6.cell? ⟨gs, 1, none⟩ = some (.int .i64 a2_1) := (blk_cell hbox 1).trans rfl; clear hb hbox hg n0 n1) | (go_at_call 87; (with_reducible refine (impl_in.calls (i : Int) 0 (wrap64 ((a1.size : Int) - 1)) true _ HA.out).mono ?_); rintro e w' ⟨rfl, ⟨nd, rfl⟩⟩; have n0 := aM (pw_below_drewN HB.out nd); have n1 := aM (blk_drewN BK.out nd); have n2 := aM (blk_drewN BS.out nd); clear HB BK BS hy0 hy1; have HB := n0; have BK := n1; have BS := n2; clear n0 n1 n2; generalize w6.drewN nd = w7 at HB BK BS ⊢; have hlg : gb < w7.heap.size := blk_lt (g := gb) (o := .cells #[.slice A0_0 l0_0.length c0_0, .slice A0_1 l0_1.length c0_1] 33 (0, 0)) BK.out; have hls : gs < w7.heap.size := blk_lt (g := gs) (o := .cells #[.int .i64 (i : Int), .int .i64 a2_1] 35 (0, 0)) BS.out; have hy0 : w7.cell? ⟨gs, 0, none⟩ = some (.int .i64 (i : Int)) := (blk_cell BS.out 0).trans rfl; have hy1 : w7.cell? ⟨gs, 1, none⟩ = some (.int .i64 a2_1) := (blk_cell BS.out 1).trans rfl; obtain ⟨W1, cap, hconv, hbel, hfz, hci, hback⟩ := impl_Bolts_slid.conv w7 a1 i HI.out v; rw [HO.out] at hback; rw [← HBB.out] at hci; have hz0 : W1.cell? ⟨gs, 0, none⟩ = some (.int .i64 (i : Int)) := (hbel.cell (p := ⟨gs, 0, none⟩) hls).trans ((blk_cell BS.out 0).trans rfl); have hz1 : W1.cell? ⟨gs, 1, none⟩ = some (.int .i64 a2_1) := (hbel.cell (p := ⟨gs, 1, none⟩) hls).trans ((blk_cell BS.out 1).trans rfl); have HB2 := aM (show Below w.heap.size w ((W1.setCell ⟨w7.heap.size, i, none⟩ (.int .u8 (v.toNat : Int))).drew) from below_drew1 ((below_step HB.out hbel).setCell HB.out.size _)); have HK2 := aM (show ((W1.setCell ⟨w7.heap.size, i, none⟩ (.int .u8 (v.toNat : Int))).drew).heap[gb]? = some (.cells #[.slice A0_0 l0_0.length c0_0, .slice A0_1 l0_1.length c0_1] 33 (0, 0)) from blk_drew (blk_far (blk_below (g := gb) (o := .cells #[.slice A0_0 l0_0.length c0_0, .slice A0_1 l0_1.length c0_1] 33 (0, 0)) BK.out hbel) (Nat.ne_of_lt hlg) _)); have hv1 := HV.out.1; have hv2 := HV.out.2; have hv3 := HVM.out; clear hbel HB BK BS hlg hls))
     go_region
     have hq0 : ((W1.setCell ⟨w7.heap.size, i, none⟩ (.int .u8 (v.toNat : Int))).drew).cell? ⟨gb, 0, none⟩ = some (.slice A0_0 l0_0.length c0_0) := (blk_cell HK2.out 0).trans rfl
     have hq1 : ((W1.setCell ⟨w7.heap.size, i, none⟩ (.int .u8 (v.toNat : Int))).drew).cell? ⟨gb, 1, none⟩ = some (.slice A0_1 l0_1.length c0_1) := (blk_cell HK2.out 1).trans rfl
     generalize (W1.setCell ⟨w7.heap.size, i, none⟩ (.int .u8 (v.toNat : Int))).drew = w8 at hback HB2 HK2 hq0 hq1 ⊢
     go_wp2_with (first | (go_at_call 72; (with_reducible refine (impl_Bolts_isState.calls k A0_0 c0_0 l0_0 A0_1 c0_1 l0_1 out false _ (Kd.C_below HR0.out HB2.out) HC0.out (Kd.C_below HR1.out HB2.out) HC1.out HA3.out).mono ?_); rintro e w9 ⟨rfl, hb⟩; have HB9 := aM (below_step HB2.out hb); have BK9 := aM (blk_below (g := gb) (o := .cells #[.slice A0_0 l0_0.length c0_0, .slice A0_1 l0_1.length c0_1] 33 (0, 0)) HK2.out hb); have hx0 : w9.cell? ⟨gb, 0, none⟩ = some (.slice A0_0 l0_0.length c0_0) := (blk_cell BK9.out 0).trans rfl; have hx1 : w9.cell? ⟨gb, 1, none⟩ = some (.slice A0_1 l0_1.length c0_1) := (blk_cell BK9.out 1).trans rfl; clear hb))
     go_ret2
     exact ⟨rfl, HB9.out⟩
    | true =>
     have h := HH.out
     rw [if_pos rfl] at h
     obtain ⟨bb, A4_, h⟩ := Option.bind_eq_some_iff.mp h
     simp only [Option.some.injEq, Prod.mk.injEq] at h
     obtain ⟨rfl, rfl⟩ := h
     have HA4 := aM A4_
     clear A4_
     go_enter Try.func51, Try.ntmps51
     go_wp2_with (first | ((with_reducible refine gate_dst (N := 3) rfl ?_); refine box_event ?hg (N := 3) ?hd (cs := #[.slice A0_0 l0_0.length c0_0, .slice A0_1 l0_1.length c0_1]) (t := 33) ?hr ?_; (case hd => rfl); (case hg => rfl); (case hr => first | (go_simp; done) | (go_simp; rfl)); intro gb hg w5 hbox hb; have HB := aM hb; have BK := aM hbox; have GE := aM (show w.heap.size ≤ gb by rw [hg]; exact Nat.le_refl _); clear hb hbox hg) | ((with_reducible refine gate_dst (N := 5) rfl ?_); refine box_event ?hg (N := 5) ?hd (cs := #[.int .i64 (i : Int), .int .i64 a2_1]) (t := 35) ?hr ?_; (case hd => rfl); (case hg => rfl); (case hr => first | (go_simp; done) | (go_simp; rfl)); intro gs hg w6 hbox hb; have n0 := aM (below_step HB.out hb); have n1 := aM (blk_below (g := gb) (o := .cells #[.slice A0_0 l0_0.length c0_0, .slice A0_1 l0_1.length c0_1] 33 (0, 0)) BK.out hb); clear HB BK; have HB := n0; have BK := n1; have BS := aM hbox; have hy0 : w6.cell? ⟨gs, 0, none⟩ = some (.int .i64 (i : Int)) := (blk_cell hbox 0).trans rfl; have hy1 : w6.cell? ⟨gs, 1, none⟩ = some (.int .i64 a2_1) := (blk_cell hbox 1).trans rfl; clear hb hbox hg n0 n1) | (go_at_call 87; (with_reducible refine (impl_in.calls (i : Int) 0 (wrap64 ((a1.size : Int) - 1)) true _ HA.out).mono ?_); rintro e w' ⟨rfl, ⟨nd, rfl⟩⟩; have n0 := aM (pw_below_drewN HB.out nd); have n1 := aM (blk_drewN BK.out nd); have n2 := aM (blk_drewN BS.out nd); clear HB BK BS hy0 hy1; have HB := n0; have BK := n1; have BS := n2; clear n0 n1 n2; generalize w6.drewN nd = w7 at HB BK BS ⊢; have hlg : gb < w7.heap.size := blk_lt (g := gb) (o := .cells #[.slice A0_0 l0_0.length c0_0, .slice A0_1 l0_1.length c0_1] 33 (0, 0)) BK.out; have hls : gs < w7.heap.size := blk_lt (g := gs) (o := .cells #[.int .i64 (i : Int), .int .i64 a2_1] 35 (0, 0)) BS.out; have hy0 : w7.cell? ⟨gs, 0, none⟩ = some (.int .i64 (i : Int)) := (blk_cell BS.out 0).trans rfl; have hy1 : w7.cell? ⟨gs, 1, none⟩ = some (.int .i64 a2_1) := (blk_cell BS.out 1).trans rfl; obtain ⟨W1, cap, hconv, hbel, hfz, hci, hback⟩ := impl_Bolts_slid.conv w7 a1 i HI.out v; rw [HO.out] at hback; rw [← HBB.out] at hci; have hz0 : W1.cell? ⟨gs, 0, none⟩ = some (.int .i64 (i : Int)) := (hbel.cell (p := ⟨gs, 0, none⟩) hls).trans ((blk_cell BS.out 0).trans rfl); have hz1 : W1.cell? ⟨gs, 1, none⟩ = some (.int .i64 a2_1) := (hbel.cell (p := ⟨gs, 1, none⟩) hls).trans ((blk_cell BS.out 1).trans rfl); have HB2 := aM (show Below w.heap.size w ((W1.setCell ⟨w7.heap.size, i, none⟩ (.int .u8 (v.toNat : Int))).drew) from below_drew1 ((below_step HB.out hbel).setCell HB.out.size _)); have HK2 := aM (show ((W1.setCell ⟨w7.heap.size, i, none⟩ (.int .u8 (v.toNat : Int))).drew).heap[gb]? = some (.cells #[.slice A0_0 l0_0.length c0_0, .slice A0_1 l0_1.length c0_1] 33 (0, 0)) from blk_drew (blk_far (blk_below (g := gb) (o := .cells #[.slice A0_0 l0_0.length c0_0, .slice A0_1 l0_1.length c0_1] 33 (0, 0)) BK.out hbel) (Nat.ne_of_lt hlg) _)); have hv1 := HV.out.1; have hv2 := HV.out.2; have hv3 := HVM.out; clear hbel HB BK BS hlg hls))
     go_region
     have hq0 : ((W1.setCell ⟨w7.heap.size, i, none⟩ (.int .u8 (v.toNat : Int))).drew).cell? ⟨gb, 0, none⟩ = some (.slice A0_0 l0_0.length c0_0) := (blk_cell HK2.out 0).trans rfl
     have hq1 : ((W1.setCell ⟨w7.heap.size, i, none⟩ (.int .u8 (v.toNat : Int))).drew).cell? ⟨gb, 1, none⟩ = some (.slice A0_1 l0_1.length c0_1) := (blk_cell HK2.out 1).trans rfl
     generalize (W1.setCell ⟨w7.heap.size, i, none⟩ (.int .u8 (v.toNat : Int))).drew = w8 at hback HB2 HK2 hq0 hq1 ⊢
     go_wp2_with (first | (go_at_call 72; (with_reducible refine (impl_Bolts_isState.calls k A0_0 c0_0 l0_0 A0_1 c0_1 l0_1 out true _ (Kd.C_below HR0.out HB2.out) HC0.out (Kd.C_below HR1.out HB2.out) HC1.out HA3.out).mono ?_); rintro e w9 ⟨rfl, hb⟩; have HB9 := aM (below_step HB2.out hb); have BK9 := aM (blk_below (g := gb) (o := .cells #[.slice A0_0 l0_0.length c0_0, .slice A0_1 l0_1.length c0_1] 33 (0, 0)) HK2.out hb); have hx0 : w9.cell? ⟨gb, 0, none⟩ = some (.slice A0_0 l0_0.length c0_0) := (blk_cell BK9.out 0).trans rfl; have hx1 : w9.cell? ⟨gb, 1, none⟩ = some (.slice A0_1 l0_1.length c0_1) := (blk_cell BK9.out 1).trans rfl; clear hb) | (go_at_call 73; (with_reducible refine (impl_Bolts_allowed.calls k A0_0 c0_0 l0_0 A0_1 c0_1 l0_1 out bb w9 (Kd.C_below HR0.out HB9.out) HC0.out (Kd.C_below HR1.out HB9.out) HC1.out HA4.out).mono ?_); rintro e w10 ⟨rfl, hb⟩; have HB10 := aM (below_step HB9.out hb); clear hb))
     go_ret2
     exact ⟨rfl, HB10.out⟩
   | false =>
    cases a with
    | false =>
     have h := HH.out
     rw [if_neg (by simp)] at h
     simp only [Option.some.injEq, Prod.mk.injEq] at h
     obtain ⟨rfl, rfl⟩ := h
     go_enter Try.func51, Try.ntmps51
     go_wp2_with (first | ((with_reducible refine gate_dst (N := 3) rfl ?_); refine box_event ?hg (N := 3) ?hd (cs := #[.slice A0_0 l0_0.length c0_0, .slice A0_1 l0_1.length c0_1]) (t := 33) ?hr ?_; (case hd => rfl); (case hg => rfl); (case hr => first | (go_simp; done) | (go_simp; rfl)); intro gb hg w5 hbox hb; have HB := aM hb; have BK := aM hbox; have GE := aM (show w.heap.size ≤ gb by rw [hg]; exact Nat.le_refl _); clear hb hbox hg) | ((with_reducible refine gate_dst (N := 5) rfl ?_); refine box_event ?hg (N := 5) ?hd (cs := #[.int .i64 (i : Int), .int .i64 a2_1]) (t := 35) ?hr ?_; (case hd => rfl); (case hg => rfl); (case hr => first | (go_simp; done) | (go_simp; rfl)); intro gs hg w6 hbox hb; have n0 := aM (below_step HB.out hb); have n1 := aM (blk_below (g := gb) (o := .cells #[.slice A0_0 l0_0.length c0_0, .slice A0_1 l0_1.length c0_1] 33 (0, 0)) BK.out hb); clear HB BK; have HB := n0; have BK := n1; have BS := aM hbox; have hy0 : w6.cell? ⟨gs, 0, none⟩ = some (.int .i64 (i : Int)) := (blk_cell hbox 0).trans rfl; have hy1 : w6.cell? ⟨gs, 1, none⟩ = some (.int .i64 a2_1) := (blk_cell hbox 1).trans rfl; clear hb hbox hg n0 n1) | (go_at_call 87; (with_reducible refine (impl_in.calls (i : Int) 0 (wrap64 ((a1.size : Int) - 1)) true _ HA.out).mono ?_); rintro e w' ⟨rfl, ⟨nd, rfl⟩⟩; have n0 := aM (pw_below_drewN HB.out nd); have n1 := aM (blk_drewN BK.out nd); have n2 := aM (blk_drewN BS.out nd); clear HB BK BS hy0 hy1; have HB := n0; have BK := n1; have BS := n2; clear n0 n1 n2; generalize w6.drewN nd = w7 at HB BK BS ⊢; have hlg : gb < w7.heap.size := blk_lt (g := gb) (o := .cells #[.slice A0_0 l0_0.length c0_0, .slice A0_1 l0_1.length c0_1] 33 (0, 0)) BK.out; have hls : gs < w7.heap.size := blk_lt (g := gs) (o := .cells #[.int .i64 (i : Int), .int .i64 a2_1] 35 (0, 0)) BS.out; have hy0 : w7.cell? ⟨gs, 0, none⟩ = some (.int .i64 (i : Int)) := (blk_cell BS.out 0).trans rfl; have hy1 : w7.cell? ⟨gs, 1, none⟩ = some (.int .i64 a2_1) := (blk_cell BS.out 1).trans rfl; obtain ⟨W1, cap, hconv, hbel, hfz, hci, hback⟩ := impl_Bolts_slid.conv w7 a1 i HI.out v; rw [HO.out] at hback; rw [← HBB.out] at hci; have hz0 : W1.cell? ⟨gs, 0, none⟩ = some (.int .i64 (i : Int)) := (hbel.cell (p := ⟨gs, 0, none⟩) hls).trans ((blk_cell BS.out 0).trans rfl); have hz1 : W1.cell? ⟨gs, 1, none⟩ = some (.int .i64 a2_1) := (hbel.cell (p := ⟨gs, 1, none⟩) hls).trans ((blk_cell BS.out 1).trans rfl); have HB2 := aM (show Below w.heap.size w ((W1.setCell ⟨w7.heap.size, i, none⟩ (.int .u8 (v.toNat : Int))).drew) from below_drew1 ((below_step HB.out hbel).setCell HB.out.size _)); have HK2 := aM (show ((W1.setCell ⟨w7.heap.size, i, none⟩ (.int .u8 (v.toNat : Int))).drew).heap[gb]? = some (.cells #[.slice A0_0 l0_0.length c0_0, .slice A0_1 l0_1.length c0_1] 33 (0, 0)) from blk_drew (blk_far (blk_below (g := gb) (o := .cells #[.slice A0_0 l0_0.length c0_0, .slice A0_1 l0_1.length c0_1] 33 (0, 0)) BK.out hbel) (Nat.ne_of_lt hlg) _)); have hv1 := HV.out.1; have hv2 := HV.out.2; have hv3 := HVM.out; clear hbel HB BK BS hlg hls))
     go_region
     have hq0 : ((W1.setCell ⟨w7.heap.size, i, none⟩ (.int .u8 (v.toNat : Int))).drew).cell? ⟨gb, 0, none⟩ = some (.slice A0_0 l0_0.length c0_0) := (blk_cell HK2.out 0).trans rfl
     have hq1 : ((W1.setCell ⟨w7.heap.size, i, none⟩ (.int .u8 (v.toNat : Int))).drew).cell? ⟨gb, 1, none⟩ = some (.slice A0_1 l0_1.length c0_1) := (blk_cell HK2.out 1).trans rfl
     generalize (W1.setCell ⟨w7.heap.size, i, none⟩ (.int .u8 (v.toNat : Int))).drew = w8 at hback HB2 HK2 hq0 hq1 ⊢
     go_wp2_with (first | (go_at_call 72; (with_reducible refine (impl_Bolts_isState.calls k A0_0 c0_0 l0_0 A0_1 c0_1 l0_1 out false _ (Kd.C_below HR0.out HB2.out) HC0.out (Kd.C_below HR1.out HB2.out) HC1.out HA3.out).mono ?_); rintro e w9 ⟨rfl, hb⟩; have HB9 := aM (below_step HB2.out hb); have BK9 := aM (blk_below (g := gb) (o := .cells #[.slice A0_0 l0_0.length c0_0, .slice A0_1 l0_1.length c0_1] 33 (0, 0)) HK2.out hb); have hx0 : w9.cell? ⟨gb, 0, none⟩ = some (.slice A0_0 l0_0.length c0_0) := (blk_cell BK9.out 0).trans rfl; have hx1 : w9.cell? ⟨gb, 1, none⟩ = some (.slice A0_1 l0_1.length c0_1) := (blk_cell BK9.out 1).trans rfl; clear hb))
     go_ret2
     exact ⟨rfl, HB9.out⟩
    | true =>
     have h := HH.out
     rw [if_pos rfl] at h
     obtain ⟨bb, A4_, h⟩ := Option.bind_eq_some_iff.mp h
     simp only [Option.some.injEq, Prod.mk.injEq] at h
     obtain ⟨rfl, rfl⟩ := h
     have HA4 := aM A4_
     clear A4_
     go_enter Try.func51, Try.ntmps51
     go_wp2_with (first | ((with_reducible refine gate_dst (N := 3) rfl ?_); refine box_event ?hg (N := 3) ?hd (cs := #[.slice A0_0 l0_0.length c0_0, .slice A0_1 l0_1.length c0_1]) (t := 33) ?hr ?_; (case hd => rfl); (case hg => rfl); (case hr => first | (go_simp; done) | (go_simp; rfl)); intro gb hg w5 hbox hb; have HB := aM hb; have BK := aM hbox; have GE := aM (show w.heap.size ≤ gb by rw [hg]; exact Nat.le_refl _); clear hb hbox hg) | ((with_reducible refine gate_dst (N := 5) rfl ?_); refine box_event ?hg (N := 5) ?hd (cs := #[.int .i64 (i : Int), .int .i64 a2_1]) (t := 35) ?hr ?_; (case hd => rfl); (case hg => rfl); (case hr => first | (go_simp; done) | (go_simp; rfl)); intro gs hg w6 hbox hb; have n0 := aM (below_step HB.out hb); have n1 := aM (blk_below (g := gb) (o := .cells #[.slice A0_0 l0_0.length c0_0, .slice A0_1 l0_1.length c0_1] 33 (0, 0)) BK.out hb); clear HB BK; have HB := n0; have BK := n1; have BS := aM hbox; have hy0 : w6.cell? ⟨gs, 0, none⟩ = some (.int .i64 (i : Int)) := (blk_cell hbox 0).trans rfl; have hy1 : w6.cell? ⟨gs, 1, none⟩ = some (.int .i64 a2_1) := (blk_cell hbox 1).trans rfl; clear hb hbox hg n0 n1) | (go_at_call 87; (with_reducible refine (impl_in.calls (i : Int) 0 (wrap64 ((a1.size : Int) - 1)) true _ HA.out).mono ?_); rintro e w' ⟨rfl, ⟨nd, rfl⟩⟩; have n0 := aM (pw_below_drewN HB.out nd); have n1 := aM (blk_drewN BK.out nd); have n2 := aM (blk_drewN BS.out nd); clear HB BK BS hy0 hy1; have HB := n0; have BK := n1; have BS := n2; clear n0 n1 n2; generalize w6.drewN nd = w7 at HB BK BS ⊢; have hlg : gb < w7.heap.size := blk_lt (g := gb) (o := .cells #[.slice A0_0 l0_0.length c0_0, .slice A0_1 l0_1.length c0_1] 33 (0, 0)) BK.out; have hls : gs < w7.heap.size := blk_lt (g := gs) (o := .cells #[.int .i64 (i : Int), .int .i64 a2_1] 35 (0, 0)) BS.out; have hy0 : w7.cell? ⟨gs, 0, none⟩ = some (.int .i64 (i : Int)) := (blk_cell BS.out 0).trans rfl; have hy1 : w7.cell? ⟨gs, 1, none⟩ = some (.int .i64 a2_1) := (blk_cell BS.out 1).trans rfl; obtain ⟨W1, cap, hconv, hbel, hfz, hci, hback⟩ := impl_Bolts_slid.conv w7 a1 i HI.out v; rw [HO.out] at hback; rw [← HBB.out] at hci; have hz0 : W1.cell? ⟨gs, 0, none⟩ = some (.int .i64 (i : Int)) := (hbel.cell (p := ⟨gs, 0, none⟩) hls).trans ((blk_cell BS.out 0).trans rfl); have hz1 : W1.cell? ⟨gs, 1, none⟩ = some (.int .i64 a2_1) := (hbel.cell (p := ⟨gs, 1, none⟩) hls).trans ((blk_cell BS.out 1).trans rfl); have HB2 := aM (show Below w.heap.size w ((W1.setCell ⟨w7.heap.size, i, none⟩ (.int .u8 (v.toNat : Int))).drew) from below_drew1 ((below_step HB.out hbel).setCell HB.out.size _)); have HK2 := aM (show ((W1.setCell ⟨w7.heap.size, i, none⟩ (.int .u8 (v.toNat : Int))).drew).heap[gb]? = some (.cells #[.slice A0_0 l0_0.length c0_0, .slice A0_1 l0_1.length c0_1] 33 (0, 0)) from blk_drew (blk_far (blk_below (g := gb) (o := .cells #[.slice A0_0 l0_0.length c0_0, .slice A0_1 l0_1.length c0_1] 33 (0, 0)) BK.out hbel) (Nat.ne_of_lt hlg) _)); have hv1 := HV.out.1; have hv2 := HV.out.2; have hv3 := HVM.out; clear hbel HB BK BS hlg hls))
     go_region
     have hq0 : ((W1.setCell ⟨w7.heap.size, i, none⟩ (.int .u8 (v.toNat : Int))).drew).cell? ⟨gb, 0, none⟩ = some (.slice A0_0 l0_0.length c0_0) := (blk_cell HK2.out 0).trans rfl
     have hq1 : ((W1.setCell ⟨w7.heap.size, i, none⟩ (.int .u8 (v.toNat : Int))).drew).cell? ⟨gb, 1, none⟩ = some (.slice A0_1 l0_1.length c0_1) := (blk_cell HK2.out 1).trans rfl
     generalize (W1.setCell ⟨w7.heap.size, i, none⟩ (.int .u8 (v.toNat : Int))).drew = w8 at hback HB2 HK2 hq0 hq1 ⊢
     go_wp2_with (first | (go_at_call 72; (with_reducible refine (impl_Bolts_isState.calls k A0_0 c0_0 l0_0 A0_1 c0_1 l0_1 out true _ (Kd.C_below HR0.out HB2.out) HC0.out (Kd.C_below HR1.out HB2.out) HC1.out HA3.out).mono ?_); rintro e w9 ⟨rfl, hb⟩; have HB9 := aM (below_step HB2.out hb); have BK9 := aM (blk_below (g := gb) (o := .cells #[.slice A0_0 l0_0.length c0_0, .slice A0_1 l0_1.length c0_1] 33 (0, 0)) HK2.out hb); have hx0 : w9.cell? ⟨gb, 0, none⟩ = some (.slice A0_0 l0_0.length c0_0) := (blk_cell BK9.out 0).trans rfl; have hx1 : w9.cell? ⟨gb, 1, none⟩ = some (.slice A0_1 l0_1.length c0_1) := (blk_cell BK9.out 1).trans rfl; clear hb) | (go_at_call 73; (with_reducible refine (impl_Bolts_allowed.calls k A0_0 c0_0 l0_0 A0_1 c0_1 l0_1 out bb w9 (Kd.C_below HR0.out HB9.out) HC0.out (Kd.C_below HR1.out HB9.out) HC1.out HA4.out).mono ?_); rintro e w10 ⟨rfl, hb⟩; have HB10 := aM (below_step HB9.out hb); clear hb))
     go_ret2
     exact ⟨rfl, HB10.out⟩

/-! ### impl_Bolts_slides: function 59 -/
mutual
def impl_Bolts_slides.l0 : Nat → ByteArray → List (S35) → Int → Int → List Int → List (S111) → Option ((List (S35)))
 | 0, _, _, _, _, _, _ => none
 | k + 1, x1, x5, x13, x14, x243000, x243001 => if x14 < x13 then ((some (([1, (-1)] : List Int) : List Int)).bind fun y243 => (impl_Bolts_slides.l1 k x1 x5 x14 x13 x14 y243 (y243.length : Int) 0 x243000 x243001)) else (some x5)
def impl_Bolts_slides.l1 : Nat → ByteArray → List (S35) → Int → Int → Int → List Int → Int → Int → List Int → List (S111) → Option ((List (S35)))
 | 0, _, _, _, _, _, _, _, _, _, _ => none
 | k + 1, x1, x5, x6, x13, x14, x17, x18, x19, x243000, x243001 => if x19 < x18 then (if 0 ≤ x19 then (if x19 < (x17.length : Int) then ((impl_Bolts_slid.f k x243000 x243001 x1 x6 (rd x17 x19)).bind fun bt248 => (if bt248.2 = true then (if x5.length < 8796093022208 then (impl_Bolts_slides.l1 k x1 (x5 ++ [(⟨x6, rd x17 x19⟩ : S35)]) x6 x13 x14 x17 x18 (wrap64 (x19 + 1)) x243000 x243001) else (none)) else (impl_Bolts_slides.l1 k x1 x5 x6 x13 x14 x17 x18 (wrap64 (x19 + 1)) x243000 x243001))) else (none)) else (none)) else (impl_Bolts_slides.l0 k x1 x5 x13 (wrap64 (x14 + 1)) x243000 x243001)
end
def impl_Bolts_slides.f (k : Nat) (l0_0 : List Int) (l0_1 : List (S111)) (a1 : ByteArray) : Option ((List (S35))) := impl_Bolts_slides.l0 k a1 ([] : List (S35)) (a1.size : Int) 0 l0_0 l0_1
theorem impl_Bolts_slides.mono_l : ∀ k, (∀ y0 y1 y2 y3 y4 y5, LeO (impl_Bolts_slides.l0 k y0 y1 y2 y3 y4 y5) (impl_Bolts_slides.l0 (k + 1) y0 y1 y2 y3 y4 y5)) ∧ (∀ y0 y1 y2 y3 y4 y5 y6 y7 y8 y9, LeO (impl_Bolts_slides.l1 k y0 y1 y2 y3 y4 y5 y6 y7 y8 y9) (impl_Bolts_slides.l1 (k + 1) y0 y1 y2 y3 y4 y5 y6 y7 y8 y9))
 | 0 => ⟨fun _ _ _ _ _ _ r h => by simp [impl_Bolts_slides.l0] at h, fun _ _ _ _ _ _ _ _ _ _ r h => by simp [impl_Bolts_slides.l1] at h⟩
 | k + 1 => by
  obtain ⟨ih0, ih1⟩ := impl_Bolts_slides.mono_l k
  refine ⟨?_, ?_⟩
  ·intro y0 y1 y2 y3 y4 y5
   unfold impl_Bolts_slides.l0
   repeat' first
   | (with_reducible exact ih0 _ _ _ _ _ _)
   | (with_reducible exact ih1 _ _ _ _ _ _ _ _ _ _)
   | (with_reducible exact impl_Bolts_slid.mono _ _ _ _ _ _)
   | (with_reducible exact LeO.refl _)
   | (with_reducible exact LeO.none _)
   | (with_reducible refine LeO.ite ?_ ?_)
   | (with_reducible refine LeO.bind ?_ (fun _ => ?_))
   | exact ih0 _ _ _ _ _ _
   | exact ih1 _ _ _ _ _ _ _ _ _ _
   | exact impl_Bolts_slid.mono _ _ _ _ _ _
   | exact LeO.none _
   | refine LeO.ite ?_ ?_
   | refine LeO.bind ?_ (fun _ => ?_)
  ·intro y0 y1 y2 y3 y4 y5 y6 y7 y8 y9
   unfold impl_Bolts_slides.l1
   repeat' first
   | (with_reducible exact ih0 _ _ _ _ _ _)
   | (with_reducible exact ih1 _ _ _ _ _ _ _ _ _ _)
   | (with_reducible exact impl_Bolts_slid.mono _ _ _ _ _ _)
   | (with_reducible exact LeO.refl _)
   | (with_reducible exact LeO.none _)
   | (with_reducible refine LeO.ite ?_ ?_)
   | (with_reducible refine LeO.bind ?_ (fun _ => ?_))
   | exact ih0 _ _ _ _ _ _
   | exact ih1 _ _ _ _ _ _ _ _ _ _
   | exact impl_Bolts_slid.mono _ _ _ _ _ _
   | exact LeO.none _
   | refine LeO.ite ?_ ?_
   | refine LeO.bind ?_ (fun _ => ?_)
theorem impl_Bolts_slides.mono : ∀ a0 a1 a2 k, LeO (impl_Bolts_slides.f k a0 a1 a2) (impl_Bolts_slides.f (k + 1) a0 a1 a2) := by
 intro a0 a1 a2 k
 obtain ⟨ih0, ih1⟩ := impl_Bolts_slides.mono_l k
 unfold impl_Bolts_slides.f
 repeat' first
   | (with_reducible exact ih0 _ _ _ _ _ _)
   | (with_reducible exact ih1 _ _ _ _ _ _ _ _ _ _)
   | (with_reducible exact impl_Bolts_slid.mono _ _ _ _ _ _)
   | (with_reducible exact LeO.refl _)
   | (with_reducible exact LeO.none _)
   | (with_reducible refine LeO.ite ?_ ?_)
   | (with_reducible refine LeO.bind ?_ (fun _ => ?_))
   | exact ih0 _ _ _ _ _ _
   | exact ih1 _ _ _ _ _ _ _ _ _ _
   | exact impl_Bolts_slid.mono _ _ _ _ _ _
   | exact LeO.none _
   | refine LeO.ite ?_ ?_
   | refine LeO.bind ?_ (fun _ => ?_)
set_option maxHeartbeats 8000000 in
set_option maxRecDepth 100000 in
theorem impl_Bolts_slides.calls (k : Nat) (A0_0 : Option Addr) (c0_0 : Nat) (l0_0 : List Int) (A0_1 : Option Addr) (c0_1 : Nat) (l0_1 : List (S111)) (a1 : ByteArray) (r : List (S35)) (w : World) (hr0_0 : Kd.C (Kd.int .i64) w A0_0 l0_0.length l0_0) (hc0_0 : l0_0.length ≤ c0_0) (hr0_1 : Kd.C k111 w A0_1 l0_1.length l0_1) (hc0_1 : l0_1.length ≤ c0_1) (h : impl_Bolts_slides.f k l0_0 l0_1 a1 = some r) :
  Calls Try.prog 59 #[.agg #[.slice A0_0 l0_0.length c0_0, .slice A0_1 l0_1.length c0_1], .string a1] w fun e w' => ∃ v0_ : Value, e = .returned (v0_) ∧ Kd.R k35 35 w' w.heap.size (fun _ => True) v0_ r ∧ Below w.heap.size w w' := by
 have hu33 := Try.underlying33
 have hu35 := Try.underlying35
 have HR0_0 := aM hr0_0
 have HC0_0 := aM hc0_0
 clear hr0_0 hc0_0
 have HR0_1 := aM hr0_1
 have HC0_1 := aM hc0_1
 clear hr0_1 hc0_1
 have HB := aM (Below.refl w.heap.size w)
 have H : (impl_Bolts_slides.l0 k a1 ([] : List (S35)) (a1.size : Int) 0 l0_0 l0_1) = some r := h
 clear h
 have H' := aM H
 clear H
 go_enter Try.func59, Try.ntmps59
 go_wp2_with (first | ((with_reducible refine gate_dst (N := 2) rfl ?_); refine box_event ?hg (N := 2) ?hd (cs := #[.slice A0_0 l0_0.length c0_0, .slice A0_1 l0_1.length c0_1]) (t := 33) ?hr ?_; (case hd => rfl); (case hg => rfl); (case hr => first | (go_simp; done) | (go_simp; rfl)); intro gb242 hg w3 hbox hb; have n0_ := aM (below_step (by repeat (first | (with_reducible first | exact HB.out | apply bA | apply bN | apply bD) | exact HB.out)) hb); have n1_ := aM (hbox); have n2_ := aM ((by rw [hg]; exact (below_size (by repeat (first | (with_reducible first | exact HB.out | apply bA | apply bN | apply bD) | exact HB.out))) : w.heap.size ≤ gb242)); have n3_ := aM ((by rw [hg]; exact (below_size (by repeat (first | (with_reducible first | exact HB.out | apply bA | apply bN | apply bD) | exact HB.out))) : w.heap.size ≤ gb242)); clear HB; have HB := n0_; have BK242 := n1_; have GW242 := n2_; have GE242 := n3_; clear n0_ n1_ n2_ n3_; clear hb hbox hg))
 go_loopg [5, 14] k (fun kq v5 v14 w' => ∃ (x5_1 : List (S35)) (x14_1 : Int), v14 = .int .i64 x14_1 ∧ Aside0 (impl_Bolts_slides.l0 kq a1 x5_1 (a1.size : Int) x14_1 l0_0 l0_1 = some r) ∧ Aside0 (kq ≤ k) ∧ Aside0 (Kd.R k35 35 w' w.heap.size (fun _ => True) v5 x5_1) ∧ Aside0 (w'.heap[gb242]? = some (.cells #[(.slice A0_0 l0_0.length c0_0), (.slice A0_1 l0_1.length c0_1)] 33 (0, 0))) ∧ Aside0 (Below w.heap.size w w'))
 case atStart => exact ⟨(([] : List (S35))), (0), (by first | rfl | (simp; done) | (simp [*]; done)), H', ⟨Nat.le_refl _⟩, ⟨by first | exact Kd.R_nil _ _ _ _ _ | exact Kd.N_nil _ _ _ _ _ | exact Kd.V_nil _ _ _ _ _ | exact Kd.Q_nil _ _ _ _ _ | exact Kd.S_nil _ _ _ _ _⟩, ⟨by (with_reducible repeat (first | refine kN ?_ _ | refine kD ?_ | refine kA ?_ _)); exact BK242.out⟩, ⟨by repeat (first | (with_reducible first | exact HB.out | apply bA | apply bN | apply bD | refine bS ?_ GE242.out) | exact HB.out)⟩⟩
 case round =>
  clear H'
  try clear p2
  obtain ⟨x5_1, x14_1, rfl, HA, HK1, HO_5, BK242, HB⟩ := hrel
  cases gk with
  | zero => exact absurd HA.out (by simp [impl_Bolts_slides.l0])
  | succ k1 =>
   have H := HA.out
   clear HA
   simp only [impl_Bolts_slides.l0] at H
   by_cases c4 : x14_1 < (a1.size : Int)
   ·rw [if_pos c4] at H
    have c4b0 : decide (x14_1 < (a1.size : Int)) = true := decide_eq_true c4
    clear c4
    obtain ⟨y243, hy243⟩ : ∃ y_ : List Int, y_ = (([1, (-1)] : List Int)) := ⟨_, rfl⟩
    replace H : (impl_Bolts_slides.l1 k1 a1 x5_1 x14_1 (a1.size : Int) x14_1 y243 (y243.length : Int) 0 l0_0 l0_1) = some r := by first | (rw [hy243]; with_reducible exact H) | (have H2_ := (Option.bind_some _ _).symm.trans H; rw [hy243]; with_reducible exact H2_) | (have H2_ := (Option.bind_some _ _).symm.trans H; with_reducible exact H2_) | with_reducible exact H | (rw [hy243]; exact H) | exact H
    have Ny243 := aM hy243
    clear hy243
    have H' := aM H
    clear H
    go_wp2_with (first | ((with_reducible refine gate_dst (N := 17) rfl ?_); refine Kd.R_lit (Kd.int .i64) _ 3 ?hg (N := 17) ?hd (xs := ([1, (-1)] : List Int)) (inner := [.int .i64 1, .int .i64 (-1)]) (ok := fun _ => True) (okp := fun _ => True) ?hr ?hp (fun _ hk => hk) trivial (Below.refl _ _) (Nat.le_refl _) (by simp) ?_; (case hd => rfl); (case hg => rfl); (case hr => first | (go_simp; done) | (go_simp; rfl)); (case hp => exact (Reps.one (show Kd.M (Kd.int .i64) _ _ _ 1 [.int .i64 1] from rfl) (Reps.one (show Kd.M (Kd.int .i64) _ _ _ (-1) [.int .i64 (-1)] from rfl) (Reps.none _ _)))); intro v244 w5 ho6 hb hg_ hnew_; clear hg_ hnew_; (first | rw [← Ny243.out] at ho6 | (simp only [Int.reduceToNat] at ho6; rw [← Ny243.out] at ho6)); have n0_ := aM (Kd.R_below (by (with_reducible repeat (first | apply rA | apply rN | apply rD)); exact HO_5.out) hb); have n1_ := aM (Kd.R_lower ho6 (below_size (by repeat (first | (with_reducible first | exact HB.out | apply bA | apply bN | apply bD | refine bS ?_ GE242.out) | exact HB.out)))); have n2_ := aM (blk_below (g := gb242) (o := .cells #[.slice A0_0 l0_0.length c0_0, .slice A0_1 l0_1.length c0_1] 33 (0, 0)) (by (with_reducible repeat (first | refine kN ?_ _ | refine kD ?_ | refine kA ?_ _)); exact BK242.out) hb); have n3_ := aM (below_step (by repeat (first | (with_reducible first | exact HB.out | apply bA | apply bN | apply bD | refine bS ?_ GE242.out) | exact HB.out)) hb); clear HO_5; clear BK242; clear HB; have HO_5 := n0_; have HO245 := n1_; have BK242 := n2_; have HB := n3_; clear n0_ n1_ n2_ n3_; clear hb ho6; obtain ⟨Ao7, co7, eo7⟩ := Kd.R_slice HO245.out; subst eo7))
    go_loopg [5, 19] k1 (fun kq v5 v19 w' => ∃ (x5_2 : List (S35)) (x19_2 : Int), v19 = .int .i64 x19_2 ∧ Aside0 (impl_Bolts_slides.l1 kq a1 x5_2 x14_1 (a1.size : Int) x14_1 y243 (y243.length : Int) x19_2 l0_0 l0_1 = some r) ∧ Aside0 (kq ≤ k1) ∧ Aside0 (Kd.R k35 35 w' w.heap.size (fun _ => True) v5 x5_2) ∧ Aside0 (Kd.R (Kd.int .i64) 3 w' w.heap.size (fun _ => True) (.slice Ao7 y243.length co7) y243) ∧ Aside0 (w'.heap[gb242]? = some (.cells #[(.slice A0_0 l0_0.length c0_0), (.slice A0_1 l0_1.length c0_1)] 33 (0, 0))) ∧ Aside0 (Below w.heap.size w w'))
    case atStart => exact ⟨(x5_1), (0), (by first | rfl | (simp; done) | (simp [*]; done)), H', ⟨Nat.le_refl _⟩, ⟨by (with_reducible repeat (first | apply rA | apply rN | apply rD)); exact HO_5.out⟩, ⟨by (with_reducible repeat (first | apply rA | apply rN | apply rD)); exact HO245.out⟩, ⟨by (with_reducible repeat (first | refine kN ?_ _ | refine kD ?_ | refine kA ?_ _)); exact BK242.out⟩, ⟨by repeat (first | (with_reducible first | exact HB.out | apply bA | apply bN | apply bD | refine bS ?_ GE242.out) | exact HB.out)⟩⟩
    case round =>
     clear H'
     try clear p2
     try clear c4
     try clear c4b0
     try clear c5
     try clear p2
     obtain ⟨x5_2, x19_2, rfl, HA, HK2, HO_5, HO_17, BK242, HB⟩ := hrel
     cases gk with
     | zero => exact absurd HA.out (by simp [impl_Bolts_slides.l1])
     | succ k2 =>
      have H := HA.out
      clear HA
      simp only [impl_Bolts_slides.l1] at H
      by_cases c8 : x19_2 < (y243.length : Int)
      ·rw [if_pos c8] at H
       have c8b0 : decide (x19_2 < (y243.length : Int)) = true := decide_eq_true c8
       clear c8
       by_cases c9 : 0 ≤ x19_2
       ·rw [if_pos c9] at H
        have c9b0 : decide (0 ≤ x19_2) = true := decide_eq_true c9
        clear c9
        by_cases c10 : x19_2 < (y243.length : Int)
        ·rw [if_pos c10] at H
         have c10b0 : decide (x19_2 < (y243.length : Int)) = true := decide_eq_true c10
         clear c10
         replace H := Option.bind_eq_some_iff.mp H
         obtain ⟨⟨t248, t249⟩, A110, H⟩ := H
         replace H : (if t249 = true then (if x5_2.length < 8796093022208 then (impl_Bolts_slides.l1 k2 a1 (x5_2 ++ [(⟨x14_1, rd y243 x19_2⟩ : S35)]) x14_1 (a1.size : Int) x14_1 y243 (y243.length : Int) (wrap64 (x19_2 + 1)) l0_0 l0_1) else (none)) else (impl_Bolts_slides.l1 k2 a1 x5_2 x14_1 (a1.size : Int) x14_1 y243 (y243.length : Int) (wrap64 (x19_2 + 1)) l0_0 l0_1)) = some r := H
         have A11 := aM A110
         clear A110
         by_cases c12 : t249 = true
         ·subst c12
          have H1 : (if x5_2.length < 8796093022208 then (impl_Bolts_slides.l1 k2 a1 (x5_2 ++ [(⟨x14_1, rd y243 x19_2⟩ : S35)]) x14_1 (a1.size : Int) x14_1 y243 (y243.length : Int) (wrap64 (x19_2 + 1)) l0_0 l0_1) else (none)) = some r := by rw [if_pos rfl] at H; exact H
          clear H; have H := H1; clear H1
          by_cases c13 : x5_2.length < 8796093022208
          ·rw [if_pos c13] at H
           have LMc13 := aM c13
           clear c13
           obtain ⟨y250, hy250⟩ : ∃ y_ : List (S35), y_ = (x5_2 ++ [(⟨x14_1, rd y243 x19_2⟩ : S35)]) := ⟨_, rfl⟩
           replace H : (impl_Bolts_slides.l1 k2 a1 y250 x14_1 (a1.size : Int) x14_1 y243 (y243.length : Int) (wrap64 (x19_2 + 1)) l0_0 l0_1) = some r := by first | (rw [hy250]; with_reducible exact H) | (have H2_ := (Option.bind_some _ _).symm.trans H; rw [hy250]; with_reducible exact H2_) | (have H2_ := (Option.bind_some _ _).symm.trans H; with_reducible exact H2_) | with_reducible exact H | (rw [hy250]; exact H) | exact H
           have Ny250 := aM hy250
           clear hy250
           have H' := aM H
           clear H
           have p246 : 0 ≤ (x19_2 : Int) := of_decide_eq_true (by first | (with_reducible assumption) | assumption)
           have q246 : x19_2 < (y243.length : Int) := of_decide_eq_true (by first | (with_reducible assumption) | assumption)
           obtain ⟨ad246, e246, hx246_0⟩ := Kd.at_int (Kd.R_reads' HO_17.out).2.2 x19_2 p246 q246
           cases e246
           replace p246 := eq_true p246
           replace q246 := eq_true q246
           go_wp2_with (first | ((with_reducible refine gate_dst (N := 9) rfl ?_); refine box_event ?hg (N := 9) ?hd (cs := #[.int .i64 0, .int .i64 0]) (t := 35) ?hr ?_; (case hd => rfl); (case hg => rfl); (case hr => first | (go_simp; done) | (go_simp; rfl)); intro gb247 hg w14 hbox hb; have n0_ := aM (Kd.R_below (Kd.R_elderB (by (with_reducible repeat (first | apply rA | apply rN | apply rD)); exact HO_5.out) gb247 (Nat.le_of_eq hg.symm)) hb); have n1_ := aM (Kd.R_below (by (with_reducible repeat (first | apply rA | apply rN | apply rD)); exact HO_17.out) hb); have n2_ := aM (blk_below (g := gb242) (o := .cells #[.slice A0_0 l0_0.length c0_0, .slice A0_1 l0_1.length c0_1] 33 (0, 0)) (by (with_reducible repeat (first | refine kN ?_ _ | refine kD ?_ | refine kA ?_ _)); exact BK242.out) hb); have n3_ := aM (below_step (by repeat (first | (with_reducible first | exact HB.out | apply bA | apply bN | apply bD | refine bS ?_ GE242.out) | exact HB.out)) hb); have n4_ := aM (hbox); have n5_ := aM ((by rw [hg]; exact (below_size (by repeat (first | (with_reducible first | exact HB.out | apply bA | apply bN | apply bD | refine bS ?_ GE242.out) | exact HB.out))) : w.heap.size ≤ gb247)); have n6_ := aM ((by rw [hg]; exact (below_size (by repeat (first | (with_reducible first | exact HB.out | apply bA | apply bN | apply bD | refine bS ?_ GE242.out) | exact HB.out))) : w.heap.size ≤ gb247)); have n7_ := aM ((by rw [hg]; exact Nat.ne_of_lt (blk_lt (g := gb242) (o := .cells #[.slice A0_0 l0_0.length c0_0, .slice A0_1 l0_1.length c0_1] 33 (0, 0)) (by (with_reducible repeat (first | refine kN ?_ _ | refine kD ?_ | refine kA ?_ _)); exact BK242.out)) : gb242 ≠ gb247)); have n8_ := aM ((by rw [hg]; exact Nat.ne_of_gt (blk_lt (g := gb242) (o := .cells #[.slice A0_0 l0_0.length c0_0, .slice A0_1 l0_1.length c0_1] 33 (0, 0)) (by (with_reducible repeat (first | refine kN ?_ _ | refine kD ?_ | refine kA ?_ _)); exact BK242.out)) : gb247 ≠ gb242)); clear HO_5; clear HO_17; clear BK242; clear HB; have HO_5 := n0_; have HO_17 := n1_; have BK242 := n2_; have HB := n3_; have BK247 := n4_; have GW247 := n5_; have GE247 := n6_; have NB242_247 := n7_; have NB247_242 := n8_; clear n0_ n1_ n2_ n3_ n4_ n5_ n6_ n7_ n8_; clear hb hbox hg; have hnb15 := NB247_242.out; have hnc15 := NB242_247.out; have hcz16_0 : w14.cell? ⟨gb247, 0, none⟩ = some (.int .i64 0) := (blk_cell BK247.out 0).trans rfl; have hcz16_1 : w14.cell? ⟨gb247, 1, none⟩ = some (.int .i64 0) := (blk_cell BK247.out 1).trans rfl; have hfz16_0 := blk_frozen BK247.out 0; have hfz16_1 := blk_frozen BK247.out 1; have hcz17_0 : w14.cell? ⟨gb242, 0, none⟩ = some (.slice A0_0 l0_0.length c0_0) := (blk_cell BK242.out 0).trans rfl; have hcz17_1 : w14.cell? ⟨gb242, 1, none⟩ = some (.slice A0_1 l0_1.length c0_1) := (blk_cell BK242.out 1).trans rfl; have hfz17_0 := blk_frozen BK242.out 0; have hfz17_1 := blk_frozen BK242.out 1) | ((with_reducible refine gate_callee (f := 51) rfl ?_); refine goesL_ (some 30) rfl rfl Try.func51 (by kernel_rfl) rfl #[.agg #[.slice A0_0 l0_0.length c0_0, .slice A0_1 l0_1.length c0_1], .string a1, .agg #[.int .i64 x14_1, .int .i64 (rd y243 x19_2)]] rfl (by (try simp only [List.map_toArray, List.map_cons, List.map_nil]); first | done | rfl | (simp only [List.length_drop, List.length_take]; rfl)) ?_; (with_reducible refine (impl_Bolts_slid.calls k2 _ _ l0_0 _ _ l0_1 a1 x14_1 (rd y243 x19_2) t248 true _ ?side1 ?side2 ?side3 ?side4 A11.out).mono ?_); (case side1 => exact Kd.C_below HR0_0.out (by repeat (first | (with_reducible first | exact HB.out | apply bA | apply bN | apply bD | refine bS ?_ GE242.out | refine bS ?_ GE247.out) | exact HB.out))); (case side2 => exact HC0_0.out); (case side3 => exact Kd.C_below HR0_1.out (by repeat (first | (with_reducible first | exact HB.out | apply bA | apply bN | apply bD | refine bS ?_ GE242.out | refine bS ?_ GE247.out) | exact HB.out))); (case side4 => exact HC0_1.out); rintro e w18 ⟨rfl, hb⟩; refine ⟨_, rfl, ?_⟩; have n0_ := aM (Kd.R_below (by (with_reducible repeat (first | apply rA | apply rN | apply rD)); exact (Kd.R_mono (Kd.R_far (p := ⟨gb247, 1, none⟩) (Kd.R_far (p := ⟨gb247, 0, none⟩) (Kd.R_mono HO_5.out (fun k_ hk => (⟨hk, hk.2⟩ : _ ∧ k_ ≠ gb247))) (fun _ hk => hk.2) (.int .i64 x14_1)) (fun _ hk => hk.2) (.int .i64 (rd y243 x19_2))) (fun _ h_ => h_.1))) hb); have n1_ := aM (Kd.R_below (by (with_reducible repeat (first | apply rA | apply rN | apply rD)); exact (Kd.R_mono (Kd.R_far (p := ⟨gb247, 1, none⟩) (Kd.R_far (p := ⟨gb247, 0, none⟩) (Kd.R_types HO_17.out BK247.out (by decide)) (fun _ hk => hk.2) (.int .i64 x14_1)) (fun _ hk => hk.2) (.int .i64 (rd y243 x19_2))) (fun _ h_ => h_.1))) hb); have n2_ := aM (blk_below (g := gb242) (o := .cells #[.slice A0_0 l0_0.length c0_0, .slice A0_1 l0_1.length c0_1] 33 (0, 0)) (by (with_reducible repeat (first | refine kN ?_ _ | refine kD ?_ | refine kA ?_ _)); refine blk_far ?_ NB242_247.out _; (with_reducible repeat (first | refine kN ?_ _ | refine kD ?_ | refine kA ?_ _)); refine blk_far ?_ NB242_247.out _; (with_reducible repeat (first | refine kN ?_ _ | refine kD ?_ | refine kA ?_ _)); exact BK242.out) hb); have n3_ := aM (blk_below (g := gb247) (o := .cells #[.int .i64 x14_1, .int .i64 (rd y243 x19_2)] 35 (0, 0)) (by (with_reducible repeat (first | refine kN ?_ _ | refine kD ?_ | refine kA ?_ _)); refine blk_put (cs := #[.int .i64 x14_1, .int .i64 0]) ?_ 1 _ rfl; (with_reducible repeat (first | refine kN ?_ _ | refine kD ?_ | refine kA ?_ _)); refine blk_put (cs := #[.int .i64 0, .int .i64 0]) ?_ 0 _ rfl; (with_reducible repeat (first | refine kN ?_ _ | refine kD ?_ | refine kA ?_ _)); exact BK247.out) hb); have n4_ := aM (below_step (by repeat (first | (with_reducible first | exact HB.out | apply bA | apply bN | apply bD | refine bS ?_ GE242.out | refine bS ?_ GE247.out) | exact HB.out)) hb); clear HO_5; clear HO_17; clear BK242; clear BK247; clear HB; have HO_5 := n0_; have HO_17 := n1_; have BK242 := n2_; have BK247 := n3_; have HB := n4_; clear n0_ n1_ n2_ n3_ n4_; (try clear hb); (try clear hb2); (try clear hk); (try clear hi); have hcz19_0 : w18.cell? ⟨gb247, 0, none⟩ = some (.int .i64 x14_1) := (blk_cell BK247.out 0).trans rfl; have hcz19_1 : w18.cell? ⟨gb247, 1, none⟩ = some (.int .i64 (rd y243 x19_2)) := (blk_cell BK247.out 1).trans rfl; have hfz19_0 := blk_frozen BK247.out 0; have hfz19_1 := blk_frozen BK247.out 1) | ((with_reducible refine gate_builtin (b := .append) (xs := #[.tmp 34, .tmp 36]) rfl ?_); at_builtin; refine Kd.R_append k35 (w0 := w) w.heap.size rfl (.tmp 34) (.tmp 36) 44 35 (.agg #[(.int .i64 0), (.int .i64 0)]) 16 rfl Try.underlying44 info35 rfl (by decide) (by omega) u5 x5_2 (⟨x14_1, rd y243 x19_2⟩ : S35) [.int .i64 x14_1, .int .i64 (rd y243 x19_2)] (fun k_ => k_ ≠ gb247) (fun _ => False) rfl rfl ?aP (fun _ hk => hk.elim) ?aF ?aO ?aB ?aS ?aL ?_; (case aP => exact k35_mkM _ _ _ (⟨x14_1, rd y243 x19_2⟩ : S35)); (case aB => exact (by repeat (first | (with_reducible first | exact HB.out | apply bA | apply bN | apply bD | refine bS ?_ GE242.out | refine bS ?_ GE247.out) | exact HB.out))); (case aF => exact (fun k_ hk => Kd.freshB (g := gb247) (o := .cells #[.int .i64 x14_1, .int .i64 (rd y243 x19_2)] 35 (0, 0)) (by (with_reducible repeat (first | refine kN ?_ _ | refine kD ?_ | refine kA ?_ _)); exact BK247.out) k_ hk)); (case aO => exact (by (with_reducible repeat (first | apply rA | apply rN | apply rD)); exact Kd.R_mono HO_5.out (fun _ hk => hk.2))); (case aS => exact (below_size (by repeat (first | (with_reducible first | exact HB.out | apply bA | apply bN | apply bD | refine bS ?_ GE242.out | refine bS ?_ GE247.out) | exact HB.out)))); (case aL => have := LMc13.out; omega); intro v251 w20 ho hb hg hat; rw [← Ny250.out] at ho; have n0_ := aM (Kd.R_over' (by (with_reducible repeat (first | apply rA | apply rN | apply rD)); exact HO_17.out) (Kd.R_typed (by (with_reducible repeat (first | apply rA | apply rN | apply rD)); exact HO_5.out)) (by decide) hg); have n1_ := aM (blk_grown (g := gb242) (o := .cells #[.slice A0_0 l0_0.length c0_0, .slice A0_1 l0_1.length c0_1] 33 (0, 0)) (by (with_reducible repeat (first | refine kN ?_ _ | refine kD ?_ | refine kA ?_ _)); exact BK242.out) hg (Kd.R_ne HO_5.out BK242.out (by decide))); have n2_ := aM (blk_grown (g := gb247) (o := .cells #[.int .i64 x14_1, .int .i64 (rd y243 x19_2)] 35 (0, 0)) (by (with_reducible repeat (first | refine kN ?_ _ | refine kD ?_ | refine kA ?_ _)); exact BK247.out) hg (Kd.R_away HO_5.out (fun _ hk => hk.2))); have n3_ := aM (hb); have n4_ := aM (ho); clear HO_17; clear BK242; clear BK247; clear HB; clear HO_5; have HO_17 := n0_; have BK242 := n1_; have BK247 := n2_; have HB := n3_; have HO252 := n4_; clear n0_ n1_ n2_ n3_ n4_; clear ho hb hg hat))
           go_roundg k2
           case measure => have := HK1.out; have := HK2.out; omega
           case rel => exact ⟨(y250), (wrap64 (x19_2 + 1)), (by first | rfl | (simp; done) | (simp [*]; done)), H', ⟨by have := HK1.out; have := HK2.out; omega⟩, ⟨by (with_reducible repeat (first | apply rA | apply rN | apply rD)); exact Kd.R_mono HO252.out (fun _ hk => trivial)⟩, ⟨by (with_reducible repeat (first | apply rA | apply rN | apply rD)); exact HO_17.out⟩, ⟨by (with_reducible repeat (first | refine kN ?_ _ | refine kD ?_ | refine kA ?_ _)); exact BK242.out⟩, ⟨by repeat (first | (with_reducible first | exact HB.out | apply bA | apply bN | apply bD | refine bS ?_ GE242.out | refine bS ?_ GE247.out) | exact HB.out)⟩⟩
          ·rw [if_neg c13] at H
           exact absurd H (by simp)
         ·replace c12 := Bool.eq_false_iff.mpr c12
          subst c12
          have H1 : (impl_Bolts_slides.l1 k2 a1 x5_2 x14_1 (a1.size : Int) x14_1 y243 (y243.length : Int) (wrap64 (x19_2 + 1)) l0_0 l0_1) = some r := by rw [if_neg (show ¬ (false = true) by decide)] at H; exact H
          clear H; have H := H1; clear H1
          have H' := aM H
          clear H
          have p246 : 0 ≤ (x19_2 : Int) := of_decide_eq_true (by first | (with_reducible assumption) | assumption)
          have q246 : x19_2 < (y243.length : Int) := of_decide_eq_true (by first | (with_reducible assumption) | assumption)
          obtain ⟨ad246, e246, hx246_0⟩ := Kd.at_int (Kd.R_reads' HO_17.out).2.2 x19_2 p246 q246
          cases e246
          replace p246 := eq_true p246
          replace q246 := eq_true q246
          go_wp2_with (first | ((with_reducible refine gate_dst (N := 9) rfl ?_); refine box_event ?hg (N := 9) ?hd (cs := #[.int .i64 0, .int .i64 0]) (t := 35) ?hr ?_; (case hd => rfl); (case hg => rfl); (case hr => first | (go_simp; done) | (go_simp; rfl)); intro gb247 hg w21 hbox hb; have n0_ := aM (Kd.R_below (Kd.R_elderB (by (with_reducible repeat (first | apply rA | apply rN | apply rD)); exact HO_5.out) gb247 (Nat.le_of_eq hg.symm)) hb); have n1_ := aM (Kd.R_below (by (with_reducible repeat (first | apply rA | apply rN | apply rD)); exact HO_17.out) hb); have n2_ := aM (blk_below (g := gb242) (o := .cells #[.slice A0_0 l0_0.length c0_0, .slice A0_1 l0_1.length c0_1] 33 (0, 0)) (by (with_reducible repeat (first | refine kN ?_ _ | refine kD ?_ | refine kA ?_ _)); exact BK242.out) hb); have n3_ := aM (below_step (by repeat (first | (with_reducible first | exact HB.out | apply bA | apply bN | apply bD | refine bS ?_ GE242.out) | exact HB.out)) hb); have n4_ := aM (hbox); have n5_ := aM ((by rw [hg]; exact (below_size (by repeat (first | (with_reducible first | exact HB.out | apply bA | apply bN | apply bD | refine bS ?_ GE242.out) | exact HB.out))) : w.heap.size ≤ gb247)); have n6_ := aM ((by rw [hg]; exact (below_size (by repeat (first | (with_reducible first | exact HB.out | apply bA | apply bN | apply bD | refine bS ?_ GE242.out) | exact HB.out))) : w.heap.size ≤ gb247)); have n7_ := aM ((by rw [hg]; exact Nat.ne_of_lt (blk_lt (g := gb242) (o := .cells #[.slice A0_0 l0_0.length c0_0, .slice A0_1 l0_1.length c0_1] 33 (0, 0)) (by (with_reducible repeat (first | refine kN ?_ _ | refine kD ?_ | refine kA ?_ _)); exact BK242.out)) : gb242 ≠ gb247)); have n8_ := aM ((by rw [hg]; exact Nat.ne_of_gt (blk_lt (g := gb242) (o := .cells #[.slice A0_0 l0_0.length c0_0, .slice A0_1 l0_1.length c0_1] 33 (0, 0)) (by (with_reducible repeat (first | refine kN ?_ _ | refine kD ?_ | refine kA ?_ _)); exact BK242.out)) : gb247 ≠ gb242)); clear HO_5; clear HO_17; clear BK242; clear HB; have HO_5 := n0_; have HO_17 := n1_; have BK242 := n2_; have HB := n3_; have BK247 := n4_; have GW247 := n5_; have GE247 := n6_; have NB242_247 := n7_; have NB247_242 := n8_; clear n0_ n1_ n2_ n3_ n4_ n5_ n6_ n7_ n8_; clear hb hbox hg; have hnb22 := NB247_242.out; have hnc22 := NB242_247.out; have hcz23_0 : w21.cell? ⟨gb247, 0, none⟩ = some (.int .i64 0) := (blk_cell BK247.out 0).trans rfl; have hcz23_1 : w21.cell? ⟨gb247, 1, none⟩ = some (.int .i64 0) := (blk_cell BK247.out 1).trans rfl; have hfz23_0 := blk_frozen BK247.out 0; have hfz23_1 := blk_frozen BK247.out 1; have hcz24_0 : w21.cell? ⟨gb242, 0, none⟩ = some (.slice A0_0 l0_0.length c0_0) := (blk_cell BK242.out 0).trans rfl; have hcz24_1 : w21.cell? ⟨gb242, 1, none⟩ = some (.slice A0_1 l0_1.length c0_1) := (blk_cell BK242.out 1).trans rfl; have hfz24_0 := blk_frozen BK242.out 0; have hfz24_1 := blk_frozen BK242.out 1) | ((with_reducible refine gate_callee (f := 51) rfl ?_); refine goesL_ (some 30) rfl rfl Try.func51 (by kernel_rfl) rfl #[.agg #[.slice A0_0 l0_0.length c0_0, .slice A0_1 l0_1.length c0_1], .string a1, .agg #[.int .i64 x14_1, .int .i64 (rd y243 x19_2)]] rfl (by (try simp only [List.map_toArray, List.map_cons, List.map_nil]); first | done | rfl | (simp only [List.length_drop, List.length_take]; rfl)) ?_; (with_reducible refine (impl_Bolts_slid.calls k2 _ _ l0_0 _ _ l0_1 a1 x14_1 (rd y243 x19_2) t248 false _ ?side1 ?side2 ?side3 ?side4 A11.out).mono ?_); (case side1 => exact Kd.C_below HR0_0.out (by repeat (first | (with_reducible first | exact HB.out | apply bA | apply bN | apply bD | refine bS ?_ GE242.out | refine bS ?_ GE247.out) | exact HB.out))); (case side2 => exact HC0_0.out); (case side3 => exact Kd.C_below HR0_1.out (by repeat (first | (with_reducible first | exact HB.out | apply bA | apply bN | apply bD | refine bS ?_ GE242.out | refine bS ?_ GE247.out) | exact HB.out))); (case side4 => exact HC0_1.out); rintro e w25 ⟨rfl, hb⟩; refine ⟨_, rfl, ?_⟩; have n0_ := aM (Kd.R_below (by (with_reducible repeat (first | apply rA | apply rN | apply rD)); exact (Kd.R_mono (Kd.R_far (p := ⟨gb247, 1, none⟩) (Kd.R_far (p := ⟨gb247, 0, none⟩) (Kd.R_mono HO_5.out (fun k_ hk => (⟨hk, hk.2⟩ : _ ∧ k_ ≠ gb247))) (fun _ hk => hk.2) (.int .i64 x14_1)) (fun _ hk => hk.2) (.int .i64 (rd y243 x19_2))) (fun _ h_ => h_.1))) hb); have n1_ := aM (Kd.R_below (by (with_reducible repeat (first | apply rA | apply rN | apply rD)); exact (Kd.R_mono (Kd.R_far (p := ⟨gb247, 1, none⟩) (Kd.R_far (p := ⟨gb247, 0, none⟩) (Kd.R_types HO_17.out BK247.out (by decide)) (fun _ hk => hk.2) (.int .i64 x14_1)) (fun _ hk => hk.2) (.int .i64 (rd y243 x19_2))) (fun _ h_ => h_.1))) hb); have n2_ := aM (blk_below (g := gb242) (o := .cells #[.slice A0_0 l0_0.length c0_0, .slice A0_1 l0_1.length c0_1] 33 (0, 0)) (by (with_reducible repeat (first | refine kN ?_ _ | refine kD ?_ | refine kA ?_ _)); refine blk_far ?_ NB242_247.out _; (with_reducible repeat (first | refine kN ?_ _ | refine kD ?_ | refine kA ?_ _)); refine blk_far ?_ NB242_247.out _; (with_reducible repeat (first | refine kN ?_ _ | refine kD ?_ | refine kA ?_ _)); exact BK242.out) hb); have n3_ := aM (blk_below (g := gb247) (o := .cells #[.int .i64 x14_1, .int .i64 (rd y243 x19_2)] 35 (0, 0)) (by (with_reducible repeat (first | refine kN ?_ _ | refine kD ?_ | refine kA ?_ _)); refine blk_put (cs := #[.int .i64 x14_1, .int .i64 0]) ?_ 1 _ rfl; (with_reducible repeat (first | refine kN ?_ _ | refine kD ?_ | refine kA ?_ _)); refine blk_put (cs := #[.int .i64 0, .int .i64 0]) ?_ 0 _ rfl; (with_reducible repeat (first | refine kN ?_ _ | refine kD ?_ | refine kA ?_ _)); exact BK247.out) hb); have n4_ := aM (below_step (by repeat (first | (with_reducible first | exact HB.out | apply bA | apply bN | apply bD | refine bS ?_ GE242.out | refine bS ?_ GE247.out) | exact HB.out)) hb); clear HO_5; clear HO_17; clear BK242; clear BK247; clear HB; have HO_5 := n0_; have HO_17 := n1_; have BK242 := n2_; have BK247 := n3_; have HB := n4_; clear n0_ n1_ n2_ n3_ n4_; (try clear hb); (try clear hb2); (try clear hk); (try clear hi)))
          go_roundg k2
          case measure => have := HK1.out; have := HK2.out; omega
          case rel => exact ⟨(x5_2), (wrap64 (x19_2 + 1)), (by first | rfl | (simp; done) | (simp [*]; done)), H', ⟨by have := HK1.out; have := HK2.out; omega⟩, ⟨by (with_reducible repeat (first | apply rA | apply rN | apply rD)); exact Kd.R_mono HO_5.out (fun _ hk => trivial)⟩, ⟨by (with_reducible repeat (first | apply rA | apply rN | apply rD)); exact HO_17.out⟩, ⟨by (with_reducible repeat (first | refine kN ?_ _ | refine kD ?_ | refine kA ?_ _)); exact BK242.out⟩, ⟨by repeat (first | (with_reducible first | exact HB.out | apply bA | apply bN | apply bD | refine bS ?_ GE242.out | refine bS ?_ GE247.out) | exact HB.out)⟩⟩
        ·rw [if_neg c10] at H
         exact absurd H (by simp)
       ·rw [if_neg c9] at H
        exact absurd H (by simp)
      ·rw [if_neg c8] at H
       have c8b0 : decide (x19_2 < (y243.length : Int)) = false := decide_eq_false c8
       clear c8
       have H' := aM H
       clear H
       go_wp2
       go_roundg k2
       case measure => have := HK1.out; have := HK2.out; omega
       case rel => exact ⟨(x5_2), (wrap64 (x14_1 + 1)), (by first | rfl | (simp; done) | (simp [*]; done)), H', ⟨by have := HK1.out; have := HK2.out; omega⟩, ⟨by (with_reducible repeat (first | apply rA | apply rN | apply rD)); exact HO_5.out⟩, ⟨by (with_reducible repeat (first | refine kN ?_ _ | refine kD ?_ | refine kA ?_ _)); exact BK242.out⟩, ⟨by repeat (first | (with_reducible first | exact HB.out | apply bA | apply bN | apply bD | refine bS ?_ GE242.out) | exact HB.out)⟩⟩
   ·rw [if_neg c4] at H
    have c4b0 : decide (x14_1 < (a1.size : Int)) = false := decide_eq_false c4
    clear c4
    obtain rfl := Option.some.inj H
    go_wp2
    go_ret
    exact ⟨_, by first | rfl | (simp [errW_none, errW_some] <;> rfl) | (simp [*, errW_none, errW_some] <;> rfl), by (with_reducible repeat (first | apply rA | apply rN | apply rD)); exact HO_5.out, by repeat (first | (with_reducible first | exact HB.out | apply bA | apply bN | apply bD | refine bS ?_ GE242.out) | exact HB.out)⟩

/-! ### impl_Bolts_search_1: function 90 (told by hand) -/
/-- The function value of a search: the states behind all slides of a state. -/
def impl_Bolts_search_1.l0 (l0 : List Int) (l1 : List S111) (s : ByteArray) : Nat → List S35 → List ByteArray → Int → Option (List ByteArray)
 | 0, _, _, _ => none
 | k + 1, ms, x, i => if i < (ms.length : Int) then (if 0 ≤ i then ((impl_Bolts_slid.f k l0 l1 s ((rd_T35 ms i).f0) ((rd_T35 ms i).f1)).bind fun t => if x.length < 8796093022208 then impl_Bolts_search_1.l0 l0 l1 s k ms (x ++ [t.1]) (wrap64 (i + 1)) else none) else none) else some x
def impl_Bolts_search_1.f (l0 : List Int) (l1 : List S111) (k : Nat) (s : ByteArray) : Option (List ByteArray) := (impl_Bolts_slides.f k l0 l1 s).bind fun ms => impl_Bolts_search_1.l0 l0 l1 s k ms [] 0
theorem impl_Bolts_search_1.mono_l (l0 : List Int) (l1 : List S111) (s : ByteArray) : ∀ k ms x i, LeO (impl_Bolts_search_1.l0 l0 l1 s k ms x i) (impl_Bolts_search_1.l0 l0 l1 s (k + 1) ms x i)
 | 0, _, _, _ => fun r h => by simp [impl_Bolts_search_1.l0] at h
 | k + 1, ms, x, i => by
  unfold impl_Bolts_search_1.l0
  exact LeO.ite (LeO.ite (LeO.bind (impl_Bolts_slid.mono _ _ _ _ _ _) (fun _ => LeO.ite (impl_Bolts_search_1.mono_l l0 l1 s k _ _ _) (LeO.none _))) (LeO.none _)) (LeO.refl _)
theorem impl_Bolts_search_1.mono (l0 : List Int) (l1 : List S111) : ∀ s n, LeO (impl_Bolts_search_1.f l0 l1 n s) (impl_Bolts_search_1.f l0 l1 (n + 1) s) := fun s n =>
 LeO.bind (impl_Bolts_slides.mono _ _ _ _) (fun _ => impl_Bolts_search_1.mono_l l0 l1 s n _ _ _)
set_option maxHeartbeats 8000000 in
set_option maxRecDepth 100000 in
theorem impl_Bolts_search_1.calls (B : Nat) (A0 : Option Addr) (c0 : Nat) (l0 : List Int) (A1 : Option Addr) (c1 : Nat) (l1 : List S111) (k : Nat) (s : ByteArray) (ts : List ByteArray) (w : World) (hbk : w.heap[B]? = some (.cells #[.slice A0 l0.length c0, .slice A1 l1.length c1] 33 (0, 0)))
  (hr0 : Kd.C (Kd.int .i64) w A0 l0.length l0) (hc0 : l0.length ≤ c0) (hr1 : Kd.C k111 w A1 l1.length l1) (hc1 : l1.length ≤ c1) (h : impl_Bolts_search_1.f l0 l1 k s = some ts) :
  Calls Try.prog 90 (#[.string s] ++ #[.pointer (some ⟨B, 0, none⟩)]) w fun e w' => ∃ v, e = .returned v ∧ Kd.R Kd.string 9 w' w.heap.size (fun _ => True) v ts ∧ Below w.heap.size w w' := by
 show Calls Try.prog 90 #[.string s, .pointer (some ⟨B, 0, none⟩)] w _
 have hu1 := Try.underlying33
 have hu2 := Try.underlying35
 unfold impl_Bolts_search_1.f at h
 obtain ⟨ms, A1_, H⟩ := Option.bind_eq_some_iff.mp h
 have HR0 := aM hr0
 have HR1 := aM hr1
 have HC0 := aM hc0
 have HC1 := aM hc1
 have HA0 := aM A1_
 have H' := aM H
 have BL := aM (show B < w.heap.size from blk_lt hbk)
 have hz0 : w.cell? ⟨B, 0, none⟩ = some (.slice A0 l0.length c0) := (blk_cell hbk 0).trans rfl
 have hz1 : w.cell? ⟨B, 1, none⟩ = some (.slice A1 l1.length c1) := (blk_cell hbk 1).trans rfl
 have BK0 := aM hbk
 clear hr0 hr1 hc0 hc1 A1_ hbk h H
 go_enter Try.func90, Try.ntmps90
 go_wp2_with (first | (go_at_call 59; (with_reducible refine (impl_Bolts_slides.calls k A0 c0 l0 A1 c1 l1 s ms w HR0.out HC0.out HR1.out HC1.out HA0.out).mono ?_); rintro e w6 ⟨vm, rfl, hm, hb⟩; obtain ⟨Am, cm, em⟩ := Kd.R_slice hm; subst em; have HM := aM hm; have HB := aM hb; have BK := aM (blk_below (g := B) (o := .cells #[.slice A0 l0.length c0, .slice A1 l1.length c1] 33 (0, 0)) BK0.out hb); clear hm hb))
 go_loopg [4, 13] k (fun kq v4 v13 w' => ∃ (x : List ByteArray) (i : Int), v13 = .int .i64 i ∧ Aside0 (impl_Bolts_search_1.l0 l0 l1 s kq ms x i = some ts) ∧ Aside0 (kq ≤ k) ∧ Aside0 (Kd.R Kd.string 9 w' w.heap.size (fun _ => True) v4 x) ∧ Aside0 (Kd.R k35 35 w' w.heap.size (fun _ => True) (.slice Am ms.length cm) ms) ∧ Aside0 (w'.heap[B]? = some (.cells #[.slice A0 l0.length c0, .slice A1 l1.length c1] 33 (0, 0))) ∧ Aside0 (Below w.heap.size w w'))
 case atStart => exact ⟨[], 0, rfl, H', ⟨Nat.le_refl _⟩, ⟨Kd.R_nil _ _ _ _ _⟩, HM, BK, HB⟩
 case round =>
  clear H' HM BK HB hz0 hz1
  obtain ⟨x, i, rfl, HA, HK1, HX, HM, BK, HB⟩ := hrel
  cases gk with
  | zero => exact absurd HA.out (by simp [impl_Bolts_search_1.l0])
  | succ k1 =>
   have H := HA.out
   clear HA
   simp only [impl_Bolts_search_1.l0] at H
   by_cases c4 : i < (ms.length : Int)
   ·rw [if_pos c4] at H
    have c4b0 : decide (i < (ms.length : Int)) = true := decide_eq_true c4
    by_cases c5 : 0 ≤ i
    ·rw [if_pos c5] at H
     have c5b0 : decide (0 ≤ i) = true := decide_eq_true c5
     obtain ⟨⟨t, tb⟩, A2_, H⟩ := Option.bind_eq_some_iff.mp H
     have A2 := aM A2_
     clear A2_
     replace H : (if x.length < 8796093022208 then impl_Bolts_search_1.l0 l0 l1 s k1 ms (x ++ [t]) (wrap64 (i + 1)) else none) = some ts := H
     by_cases c6 : x.length < 8796093022208
     ·rw [if_pos c6] at H
      have LM := aM c6
      have H' := aM H
      clear H c6
      obtain ⟨ad, ea, hx0, hx1⟩ := at_T35 (Kd.R_reads' HM.out).2.2 i c5 c4
      cases ea
      have q4 := eq_true c4
      have q5 := eq_true c5
      clear c4 c5
      go_wp2_with (first
       | ((with_reducible refine gate_dst (N := 6) rfl ?_); refine box_event ?hg (N := 6) ?hd (cs := #[.int .i64 0, .int .i64 0]) (t := 35) ?hr ?_; (case hd => rfl); (case hg => rfl); (case hr => first | (go_simp; done) | (go_simp; rfl)); intro gb hg w14 hbox hb; have n0_ := aM (Kd.R_below HX.out hb); have n1_ := aM (Kd.R_below (Kd.R_elderB HM.out gb (Nat.le_of_eq hg.symm)) hb); have n2_ := aM (blk_below (g := B) (o := .cells #[.slice A0 l0.length c0, .slice A1 l1.length c1] 33 (0, 0)) BK.out hb); have n5_ := aM (show w.heap.size ≤ gb by rw [hg]; exact below_size HB.out); have n3_ := aM (below_step HB.out hb); have n4_ := aM hbox; have n7_ := aM (show B ≠ gb by rw [hg]; exact Nat.ne_of_lt (blk_lt (g := B) (o := .cells #[.slice A0 l0.length c0, .slice A1 l1.length c1] 33 (0, 0)) BK.out)); have n8_ := aM (show gb ≠ B from fun e => n7_.out e.symm); clear HX HM BK HB; have HX := n0_; have HM := n1_; have BK := n2_; have HB := n3_; have BKm := n4_; have GE := n5_; have NB := n7_; have NB2 := n8_; clear n0_ n1_ n2_ n3_ n4_ n5_ n7_ n8_; clear hb hbox hg; have hnb := NB2.out; have hnc := NB.out; have hca : w14.cell? ⟨gb, 0, none⟩ = some (.int .i64 0) := (blk_cell BKm.out 0).trans rfl; have hcb : w14.cell? ⟨gb, 1, none⟩ = some (.int .i64 0) := (blk_cell BKm.out 1).trans rfl; have hfa := blk_frozen BKm.out 0; have hfb := blk_frozen BKm.out 1; have hcc : w14.cell? ⟨B, 0, none⟩ = some (.slice A0 l0.length c0) := (blk_cell BK.out 0).trans rfl; have hcd : w14.cell? ⟨B, 1, none⟩ = some (.slice A1 l1.length c1) := (blk_cell BK.out 1).trans rfl)
       | ((with_reducible refine gate_callee (f := 51) rfl ?_); refine goesL_ (some 21) rfl rfl Try.func51 (by kernel_rfl) rfl #[.agg #[.slice A0 l0.length c0, .slice A1 l1.length c1], .string s, .agg #[.int .i64 (rd_T35 ms i).f0, .int .i64 (rd_T35 ms i).f1]] rfl (by (try simp only [List.map_toArray, List.map_cons, List.map_nil]); first | done | rfl) ?_; (with_reducible refine (impl_Bolts_slid.calls k1 _ _ l0 _ _ l1 s (rd_T35 ms i).f0 (rd_T35 ms i).f1 t tb _ ?side1 ?side2 ?side3 ?side4 A2.out).mono ?_); (case side1 => exact Kd.C_below HR0.out (by repeat (first | (with_reducible first | exact HB.out | refine bS ?_ GE.out) | exact HB.out))); (case side2 => exact HC0.out); (case side3 => exact Kd.C_below HR1.out (by repeat (first | (with_reducible first | exact HB.out | refine bS ?_ GE.out) | exact HB.out))); (case side4 => exact HC1.out); rintro e w18 ⟨rfl, hb⟩; refine ⟨_, rfl, ?_⟩; have n0_ := aM (Kd.R_below (Kd.R_mono (Kd.R_far (p := ⟨gb, 1, none⟩) (Kd.R_far (p := ⟨gb, 0, none⟩) (Kd.R_types HX.out BKm.out (by decide)) (fun _ hk => hk.2) (.int .i64 (rd_T35 ms i).f0)) (fun _ hk => hk.2) (.int .i64 (rd_T35 ms i).f1)) (fun _ h_ => h_.1)) hb); have n1_ := aM (Kd.R_below (Kd.R_mono (Kd.R_far (p := ⟨gb, 1, none⟩) (Kd.R_far (p := ⟨gb, 0, none⟩) (Kd.R_mono HM.out (fun k_ hk => (⟨hk, hk.2⟩ : _ ∧ k_ ≠ gb))) (fun _ hk => hk.2) (.int .i64 (rd_T35 ms i).f0)) (fun _ hk => hk.2) (.int .i64 (rd_T35 ms i).f1)) (fun _ h_ => h_.1)) hb); have n2_ := aM (blk_below (g := B) (o := .cells #[.slice A0 l0.length c0, .slice A1 l1.length c1] 33 (0, 0)) (blk_far (blk_far BK.out NB.out _) NB.out _) hb); have n4_ := aM (below_step (by repeat (first | (with_reducible first | exact HB.out | refine bS ?_ GE.out) | exact HB.out)) hb); clear HX HM BK HB; have HX := n0_; have HM := n1_; have BK := n2_; have HB := n4_; clear n0_ n1_ n2_ n4_; clear hb)
       | ((with_reducible refine gate_builtin (b := .append) (xs := #[.tmp 24, .tmp 26]) rfl ?_); at_builtin; refine Kd.R_append Kd.string (w0 := w) w.heap.size rfl (.tmp 24) (.tmp 26) 75 9 (.string ⟨#[]⟩) 16 rfl Try.underlying75 info9 rfl (by decide) (by omega) u4 x t [.string t] (fun _ => True) (fun _ => False) rfl rfl ?aP (fun _ hk => hk.elim) ?aF ?aO ?aB ?aS ?aL ?_; (case aP => exact rfl); (case aB => exact HB.out); (case aF => exact (fun _ _ => trivial)); (case aO => exact HX.out); (case aS => exact below_size HB.out); (case aL => have := LM.out; omega); intro v2 w20 ho hb hg hat; have n0_ := aM (Kd.R_mono (Kd.R_over' HM.out (Kd.R_typed HX.out) (by decide) hg) (fun _ _ => trivial)); have n1_ := aM (blk_grown (g := B) (o := .cells #[.slice A0 l0.length c0, .slice A1 l1.length c1] 33 (0, 0)) BK.out hg (Kd.R_ne HX.out BK.out (by decide))); have n3_ := aM hb; have n4_ := aM ho; clear HM BK HB HX; have HM := n0_; have BK := n1_; have HB := n3_; have HX := n4_; clear n0_ n1_ n3_ n4_; clear ho hb hg hat))
      go_roundg k1
      case measure => have := HK1.out; omega
      case rel => exact ⟨x ++ [t], wrap64 (i + 1), rfl, H', ⟨by have := HK1.out; omega⟩, ⟨Kd.R_mono HX.out (fun _ _ => trivial)⟩, HM, BK, HB⟩
     ·rw [if_neg c6] at H
      cases H
    ·rw [if_neg c5] at H
     cases H
   ·rw [if_neg c4] at H
    have c4b0 : decide (i < (ms.length : Int)) = false := decide_eq_false c4
    clear c4
    obtain rfl := Option.some.inj H
    go_wp2
    go_ret
    exact ⟨_, rfl, HX.out, HB.out⟩

/-! ### impl_Bolts_search: function 55 (told by hand) -/
theorem impl_searched.St.rebase {w w5 w' : World} {gb b1 b2 : Nat} {ok : Nat → Prop} {v : Value} {x : List ByteArray} {f g : ByteArray → Option Int} {c : Nat} (hB : Below w.heap.size w w5) (h : impl_searched.St w5 w' gb b1 b2 ok v x f g c) : impl_searched.St w w' gb b1 b2 ok v x f g c :=
 ⟨Kd.R_lower h.lst hB.size, h.blk, h.far, h.way, ⟨Nat.le_trans hB.size h.ge.1, Nat.le_trans hB.size h.ge.2.1, Nat.le_trans hB.size h.ge.2.2.1, h.ge.2.2.2⟩, below_step hB h.bel⟩
def impl_Bolts_search.f (k : Nat) (l0_0 : List Int) (l0_1 : List S111) (a1 : ByteArray) : Option (List ByteArray × (ByteArray → Option Int) × (ByteArray → Option Int)) := impl_searched.f (impl_Bolts_search_1.f l0_0 l0_1) k a1
theorem impl_Bolts_search.mono : ∀ a0 a1 a2 k, LeO (impl_Bolts_search.f k a0 a1 a2) (impl_Bolts_search.f (k + 1) a0 a1 a2) := fun a0 a1 a2 k => impl_searched.mono (impl_Bolts_search_1.mono a0 a1) a2 k
set_option maxHeartbeats 8000000 in
set_option maxRecDepth 100000 in
theorem impl_Bolts_search.calls (k : Nat) (A0_0 : Option Addr) (c0_0 : Nat) (l0_0 : List Int) (A0_1 : Option Addr) (c0_1 : Nat) (l0_1 : List S111) (a1 : ByteArray) (r : List ByteArray × (ByteArray → Option Int) × (ByteArray → Option Int)) (w : World) (hr0_0 : Kd.C (Kd.int .i64) w A0_0 l0_0.length l0_0) (hc0_0 : l0_0.length ≤ c0_0) (hr0_1 : Kd.C k111 w A0_1 l0_1.length l0_1) (hc0_1 : l0_1.length ≤ c0_1) (hs : a1.size ≤ maxLen) (h : impl_Bolts_search.f k l0_0 l0_1 a1 = some r) :
  Calls Try.prog 55 #[.agg #[.slice A0_0 l0_0.length c0_0, .slice A0_1 l0_1.length c0_1], .string a1] w fun e w' => ∃ gb, e = .returned (.pointer (some ⟨gb, 0, none⟩)) ∧ ∃ b1 b2 v c, impl_searched.St w w' gb b1 b2 (fun _ => True) v r.1 r.2.1 r.2.2 c := by
 have hmf : ∀ (fn : Fn) (first cap : Array Value) (w : World), (Instr.makeFunc fn first cap).run Try.prog w = .ok (.func fn first cap) w := fun _ _ _ _ => rfl
 have hu1 := Try.underlying33
 have HR0 := aM hr0_0
 have HR1 := aM hr0_1
 have HC0 := aM hc0_0
 have HC1 := aM hc0_1
 have HS := aM hs
 have HA := aM (show impl_searched.f (impl_Bolts_search_1.f l0_0 l0_1) k a1 = some r from h)
 clear hr0_0 hr0_1 hc0_0 hc0_1 hs h
 go_enter Try.func55, Try.ntmps55
 go_wp2_with (first | ((with_reducible refine gate_dst (N := 2) rfl ?_); refine box_event ?hg (N := 2) ?hd (cs := #[.slice A0_0 l0_0.length c0_0, .slice A0_1 l0_1.length c0_1]) (t := 33) ?hr ?_; (case hd => rfl); (case hg => rfl); (case hr => first | (go_simp; done) | (go_simp; rfl)); intro gb hg w5 hbox hb; have HB := aM hb; have BK := aM hbox; clear hb hbox hg) | (go_at_call 89; (with_reducible refine (impl_searched.calls 90 #[.pointer (some ⟨gb, 0, none⟩)] (Go.Proofs.enters_of Try.func90 (by kernel_rfl) rfl) (impl_Bolts_search_1.f l0_0 l0_1) k a1 r w5 HS.out (fun j x ts W' hb' hj => impl_Bolts_search_1.calls gb A0_0 c0_0 l0_0 A0_1 c0_1 l0_1 j x ts W' (blk_below (g := gb) (o := .cells #[.slice A0_0 l0_0.length c0_0, .slice A0_1 l0_1.length c0_1] 33 (0, 0)) BK.out hb') (Kd.C_below (Kd.C_below HR0.out HB.out) hb') HC0.out (Kd.C_below (Kd.C_below HR1.out HB.out) hb') HC1.out hj) HA.out).mono ?_); rintro e w7 ⟨gr, rfl, b1, b2, v, c, hS⟩; have SS := aM (hS.rebase HB.out); clear hS))
 go_ret
 exact ⟨gr, rfl, b1, b2, v, c, SS.out⟩

end Go.Proofs.Ytejkogiiocbmfaa.PC
