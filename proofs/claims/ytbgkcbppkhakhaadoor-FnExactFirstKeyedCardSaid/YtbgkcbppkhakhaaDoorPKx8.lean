-- written by a program of this session's (wip/tools), over the kit's print
import Derived.Test.YtbgkcbppkhakhaaDoorPKx0
import Derived.Test.YtbgkcbppkhakhaaDoorPKx1
import Derived.Test.YtbgkcbppkhakhaaDoorPKx2
import Derived.Test.YtbgkcbppkhakhaaDoorPKx3
import Derived.Test.YtbgkcbppkhakhaaDoorPKx4
import Derived.Test.YtbgkcbppkhakhaaDoorPKx6
import Derived.Test.YtbgkcbppkhakhaaDoorPKx7
namespace Go.Proofs.YtbgkcbppkhakhaaDoor.PK
open Go.RowKit Go.Proofs.YtbgkcbppkhakhaaDoorW.PrintWords Go.Proofs.YtbgkcbppkhakhaaDoorW.PrintLast Go.Proofs.YtbgkcbppkhakhaaDoorW.PrintMore
attribute [local go_sem] max2_int min2_int max_two min_two max_three min_three max_four min_four   -- for this text's walks alone
set_option linter.unusedVariables false
set_option linter.unusedSimpArgs false

/-! ### spec_FewestKeyed: function 23 -/
def spec_FewestKeyed.f (k : Nat) (l0 : List ByteArray) (a1 : ByteArray) (a2 : ByteArray) : Option (Int × Bool) := (spec_keTwo.f k l0 a1 a2).bind fun t275 => (if t275 = true then ((spec_keFar.f k l0 a2).bind fun bt276 => ((spec_riNumber.f k a1).bind fun t282 => (if 0 ≤ t282 then (if t282 < (bt276.1.length : Int) then (if (rd bt276.1 t282) < 0 then (some (0, false)) else (some (rd bt276.1 t282, true))) else (none)) else (none)))) else (some (0, false)))
theorem spec_FewestKeyed.mono : ∀ a0 a1 a2 k, LeO (spec_FewestKeyed.f k a0 a1 a2) (spec_FewestKeyed.f (k + 1) a0 a1 a2) := by
  intro a0 a1 a2 k
  unfold spec_FewestKeyed.f
  repeat' first
      | (with_reducible exact spec_keFar.mono _ _ _)
      | (with_reducible exact spec_keTwo.mono _ _ _ _)
      | (with_reducible exact spec_riNumber.mono _ _)
      | (with_reducible exact LeO.refl _)
      | (with_reducible exact LeO.none _)
      | (with_reducible refine LeO.ite ?_ ?_)
      | (with_reducible refine LeO.bind ?_ (fun _ => ?_))
      | exact spec_keFar.mono _ _ _
      | exact spec_keTwo.mono _ _ _ _
      | exact spec_riNumber.mono _ _
      | exact LeO.none _
      | refine LeO.ite ?_ ?_
      | refine LeO.bind ?_ (fun _ => ?_)
set_option maxHeartbeats 8000000 in
set_option maxRecDepth 100000 in
theorem spec_FewestKeyed.calls (k : Nat) (A0 : Option Addr) (c0 : Nat) (l0 : List ByteArray) (a1 : ByteArray) (a2 : ByteArray) (r1 : Int) (r2 : Bool) (w : World) (hr0 : Kd.C Kd.string w A0 l0.length l0) (hc0 : l0.length ≤ c0) (h : spec_FewestKeyed.f k l0 a1 a2 = some (r1, r2)) :
    Calls Tryd.prog 23 #[.slice A0 l0.length c0, .string a1, .string a2] w fun e w' => e = .returned (.tuple #[.int .i64 r1, .bool r2]) ∧ Below w.heap.size w w' := by
  have HR0 := Aside0.mk hr0
  have HC0 := Aside0.mk hc0
  clear hr0 hc0
  have HB := Aside0.mk (Below.refl w.heap.size w)
  have H : ((spec_keTwo.f k l0 a1 a2).bind fun t275 => (if t275 = true then ((spec_keFar.f k l0 a2).bind fun bt276 => ((spec_riNumber.f k a1).bind fun t282 => (if 0 ≤ t282 then (if t282 < (bt276.1.length : Int) then (if (rd bt276.1 t282) < 0 then (some (0, false)) else (some (rd bt276.1 t282, true))) else (none)) else (none)))) else (some (0, false)))) = some (r1, r2) := h
  clear h
  replace H := Option.bind_eq_some_iff.mp H
  obtain ⟨t275, A40, H⟩ := H
  replace H : (if t275 = true then ((spec_keFar.f k l0 a2).bind fun bt276 => ((spec_riNumber.f k a1).bind fun t282 => (if 0 ≤ t282 then (if t282 < (bt276.1.length : Int) then (if (rd bt276.1 t282) < 0 then (some (0, false)) else (some (rd bt276.1 t282, true))) else (none)) else (none)))) else (some (0, false))) = some (r1, r2) := H
  have A4 := Aside0.mk A40
  clear A40
  by_cases c5 : t275 = true
  · subst c5
    have H1 : ((spec_keFar.f k l0 a2).bind fun bt276 => ((spec_riNumber.f k a1).bind fun t282 => (if 0 ≤ t282 then (if t282 < (bt276.1.length : Int) then (if (rd bt276.1 t282) < 0 then (some (0, false)) else (some (rd bt276.1 t282, true))) else (none)) else (none)))) = some (r1, r2) := by rw [if_pos rfl] at H; exact H
    clear H
    have H := H1
    clear H1
    replace H := Option.bind_eq_some_iff.mp H
    obtain ⟨⟨t276, t277⟩, A60, H⟩ := H
    replace H : ((spec_riNumber.f k a1).bind fun t282 => (if 0 ≤ t282 then (if t282 < (t276.length : Int) then (if (rd t276 t282) < 0 then (some (0, false)) else (some (rd t276 t282, true))) else (none)) else (none))) = some (r1, r2) := H
    have A6 := Aside0.mk A60
    clear A60
    replace H := Option.bind_eq_some_iff.mp H
    obtain ⟨t282, A70, H⟩ := H
    replace H : (if 0 ≤ t282 then (if t282 < (t276.length : Int) then (if (rd t276 t282) < 0 then (some (0, false)) else (some (rd t276 t282, true))) else (none)) else (none)) = some (r1, r2) := H
    have A7 := Aside0.mk A70
    clear A70
    by_cases c8 : 0 ≤ t282
    · rw [if_pos c8] at H
      have c8b0 : decide (0 ≤ t282) = true := decide_eq_true c8
      clear c8
      by_cases c9 : t282 < (t276.length : Int)
      · rw [if_pos c9] at H
        have c9b0 : decide (t282 < (t276.length : Int)) = true := decide_eq_true c9
        clear c9
        by_cases c10 : (rd t276 t282) < 0
        · rw [if_pos c10] at H
          have c10b0 : decide ((rd t276 t282) < 0) = true := decide_eq_true c10
          clear c10
          simp only [Option.some.injEq, Prod.mk.injEq] at H
          obtain ⟨rfl, rfl⟩ := H
          go_enter Tryd.func23, Tryd.ntmps23
          go_wp2_with (first | ((with_reducible refine gate_callee (f := 42) rfl ?_); refine goesL_ (some 14) rfl rfl Tryd.func42 (by kernel_rfl) rfl #[.slice A0 l0.length c0, .string a1, .string a2] rfl (by (try simp only [List.map_toArray, List.map_cons, List.map_nil]); first | done | rfl | (simp only [List.length_drop, List.length_take]; rfl)) ?_; (with_reducible refine (spec_keTwo.calls k _ _ l0 a1 a2 true _ ?side1 ?side2 A4.out).mono ?_); (case side1 => repeat (first | exact HR0.out | (with_reducible refine Kd.C_alloc ?_ _) | (with_reducible refine Kd.C_drewN ?_ _) | (with_reducible refine Kd.C_drew ?_))); (case side2 => exact HC0.out); rintro e w' ⟨rfl, ⟨nd, rfl⟩⟩; refine ⟨_, rfl, ?_⟩) | ((with_reducible refine gate_callee (f := 43) rfl ?_); refine goesL_ (some 19) rfl rfl Tryd.func43 (by kernel_rfl) rfl #[.slice A0 l0.length c0, .string a2] rfl (by (try simp only [List.map_toArray, List.map_cons, List.map_nil]); first | done | rfl | (simp only [List.length_drop, List.length_take]; rfl)) ?_; (with_reducible refine (spec_keFar.calls k _ _ l0 a2 t276 t277 _ ?side1 ?side2 A6.out).mono ?_); (case side1 => repeat (first | exact HR0.out | (with_reducible refine Kd.C_alloc ?_ _) | (with_reducible refine Kd.C_drewN ?_ _) | (with_reducible refine Kd.C_drew ?_))); (case side2 => exact HC0.out); rintro e w11 ⟨v278, v280, rfl, ho0, ho1, hb⟩; refine ⟨_, rfl, ?_⟩; have n0_ := Aside0.mk (Kd.R_lower ho0 (below_size (by repeat (first | (with_reducible first | exact HB.out | apply below_alloc | apply pw_below_drewN | apply below_drew1) | exact HB.out)))); have n1_ := Aside0.mk (Kd.R_lower ho1 (below_size (by repeat (first | (with_reducible first | exact HB.out | apply below_alloc | apply pw_below_drewN | apply below_drew1) | exact HB.out)))); have n2_ := Aside0.mk (below_step (by repeat (first | (with_reducible first | exact HB.out | apply below_alloc | apply pw_below_drewN | apply below_drew1) | exact HB.out)) hb); clear HB; have HO279 := n0_; have HO281 := n1_; have HB := n2_; clear n0_ n1_ n2_; (try clear hb); (try clear hb2); (try clear hk); (try clear hi); (try clear ho0); (try clear ho1)) | ((with_reducible refine gate_callee (f := 44) rfl ?_); refine goesL_ (some 24) rfl rfl Tryd.func44 (by kernel_rfl) rfl #[.string a1] rfl (by (try simp only [List.map_toArray, List.map_cons, List.map_nil]); first | done | rfl | (simp only [List.length_drop, List.length_take]; rfl)) ?_; (with_reducible refine (spec_riNumber.calls k a1 t282 _ A7.out).mono ?_); rintro e w' ⟨rfl, ⟨nd, rfl⟩⟩; refine ⟨_, rfl, ?_⟩; obtain ⟨Ao12, co12, eo12⟩ := Kd.R_slice HO279.out; subst eo12; have p283 : 0 ≤ (t282 : Int) := of_decide_eq_true (by first | (with_reducible assumption) | assumption); have q283 : t282 < (t276.length : Int) := of_decide_eq_true (by first | (with_reducible assumption) | assumption); obtain ⟨ad283, e283, hx283_0⟩ := Kd.at_int (Kd.R_reads' HO279.out).2.2 t282 p283 q283; cases e283; replace p283 := eq_true p283; replace q283 := eq_true q283))
          go_ret2
          exact ⟨by first | rfl | (simp [errW_none, errW_some] <;> rfl) | (simp [*, errW_none, errW_some] <;> rfl), by repeat (first | (with_reducible first | exact HB.out | apply below_alloc | apply pw_below_drewN | apply below_drew1) | exact HB.out)⟩
        · rw [if_neg c10] at H
          have c10b0 : decide ((rd t276 t282) < 0) = false := decide_eq_false c10
          clear c10
          simp only [Option.some.injEq, Prod.mk.injEq] at H
          obtain ⟨rfl, rfl⟩ := H
          go_enter Tryd.func23, Tryd.ntmps23
          go_wp2_with (first | ((with_reducible refine gate_callee (f := 42) rfl ?_); refine goesL_ (some 14) rfl rfl Tryd.func42 (by kernel_rfl) rfl #[.slice A0 l0.length c0, .string a1, .string a2] rfl (by (try simp only [List.map_toArray, List.map_cons, List.map_nil]); first | done | rfl | (simp only [List.length_drop, List.length_take]; rfl)) ?_; (with_reducible refine (spec_keTwo.calls k _ _ l0 a1 a2 true _ ?side1 ?side2 A4.out).mono ?_); (case side1 => repeat (first | exact HR0.out | (with_reducible refine Kd.C_alloc ?_ _) | (with_reducible refine Kd.C_drewN ?_ _) | (with_reducible refine Kd.C_drew ?_))); (case side2 => exact HC0.out); rintro e w' ⟨rfl, ⟨nd, rfl⟩⟩; refine ⟨_, rfl, ?_⟩) | ((with_reducible refine gate_callee (f := 43) rfl ?_); refine goesL_ (some 19) rfl rfl Tryd.func43 (by kernel_rfl) rfl #[.slice A0 l0.length c0, .string a2] rfl (by (try simp only [List.map_toArray, List.map_cons, List.map_nil]); first | done | rfl | (simp only [List.length_drop, List.length_take]; rfl)) ?_; (with_reducible refine (spec_keFar.calls k _ _ l0 a2 t276 t277 _ ?side1 ?side2 A6.out).mono ?_); (case side1 => repeat (first | exact HR0.out | (with_reducible refine Kd.C_alloc ?_ _) | (with_reducible refine Kd.C_drewN ?_ _) | (with_reducible refine Kd.C_drew ?_))); (case side2 => exact HC0.out); rintro e w13 ⟨v278, v280, rfl, ho0, ho1, hb⟩; refine ⟨_, rfl, ?_⟩; have n0_ := Aside0.mk (Kd.R_lower ho0 (below_size (by repeat (first | (with_reducible first | exact HB.out | apply below_alloc | apply pw_below_drewN | apply below_drew1) | exact HB.out)))); have n1_ := Aside0.mk (Kd.R_lower ho1 (below_size (by repeat (first | (with_reducible first | exact HB.out | apply below_alloc | apply pw_below_drewN | apply below_drew1) | exact HB.out)))); have n2_ := Aside0.mk (below_step (by repeat (first | (with_reducible first | exact HB.out | apply below_alloc | apply pw_below_drewN | apply below_drew1) | exact HB.out)) hb); clear HB; have HO279 := n0_; have HO281 := n1_; have HB := n2_; clear n0_ n1_ n2_; (try clear hb); (try clear hb2); (try clear hk); (try clear hi); (try clear ho0); (try clear ho1)) | ((with_reducible refine gate_callee (f := 44) rfl ?_); refine goesL_ (some 24) rfl rfl Tryd.func44 (by kernel_rfl) rfl #[.string a1] rfl (by (try simp only [List.map_toArray, List.map_cons, List.map_nil]); first | done | rfl | (simp only [List.length_drop, List.length_take]; rfl)) ?_; (with_reducible refine (spec_riNumber.calls k a1 t282 _ A7.out).mono ?_); rintro e w' ⟨rfl, ⟨nd, rfl⟩⟩; refine ⟨_, rfl, ?_⟩; obtain ⟨Ao14, co14, eo14⟩ := Kd.R_slice HO279.out; subst eo14; have p283 : 0 ≤ (t282 : Int) := of_decide_eq_true (by first | (with_reducible assumption) | assumption); have q283 : t282 < (t276.length : Int) := of_decide_eq_true (by first | (with_reducible assumption) | assumption); obtain ⟨ad283, e283, hx283_0⟩ := Kd.at_int (Kd.R_reads' HO279.out).2.2 t282 p283 q283; cases e283; replace p283 := eq_true p283; replace q283 := eq_true q283))
          go_ret2
          exact ⟨by first | rfl | (simp [errW_none, errW_some] <;> rfl) | (simp [*, errW_none, errW_some] <;> rfl), by repeat (first | (with_reducible first | exact HB.out | apply below_alloc | apply pw_below_drewN | apply below_drew1) | exact HB.out)⟩
      · rw [if_neg c9] at H
        exact absurd H (by simp)
    · rw [if_neg c8] at H
      exact absurd H (by simp)
  · replace c5 := Bool.eq_false_iff.mpr c5
    subst c5
    have H1 : (some (0, false)) = some (r1, r2) := by rw [if_neg (show ¬ (false = true) by decide)] at H; exact H
    clear H
    have H := H1
    clear H1
    simp only [Option.some.injEq, Prod.mk.injEq] at H
    obtain ⟨rfl, rfl⟩ := H
    go_enter Tryd.func23, Tryd.ntmps23
    go_wp2_with (first | ((with_reducible refine gate_callee (f := 42) rfl ?_); refine goesL_ (some 14) rfl rfl Tryd.func42 (by kernel_rfl) rfl #[.slice A0 l0.length c0, .string a1, .string a2] rfl (by (try simp only [List.map_toArray, List.map_cons, List.map_nil]); first | done | rfl | (simp only [List.length_drop, List.length_take]; rfl)) ?_; (with_reducible refine (spec_keTwo.calls k _ _ l0 a1 a2 false _ ?side1 ?side2 A4.out).mono ?_); (case side1 => repeat (first | exact HR0.out | (with_reducible refine Kd.C_alloc ?_ _) | (with_reducible refine Kd.C_drewN ?_ _) | (with_reducible refine Kd.C_drew ?_))); (case side2 => exact HC0.out); rintro e w' ⟨rfl, ⟨nd, rfl⟩⟩; refine ⟨_, rfl, ?_⟩))
    go_ret2
    exact ⟨by first | rfl | (simp [errW_none, errW_some] <;> rfl) | (simp [*, errW_none, errW_some] <;> rfl), by repeat (first | (with_reducible first | exact HB.out | apply below_alloc | apply pw_below_drewN | apply below_drew1) | exact HB.out)⟩

/-! ### impl_searched: function 55 (told by hand) -/
/-- What a search has found so far: the list, the map of the fewest moves, the map of the ways; all in blocks of the call's own. -/
structure impl_searched.St (w w' : World) (gb b1 b2 : Nat) (ok : Nat → Prop) (v : Value) (x : List ByteArray) (f g : ByteArray → Option Int) (c : Nat) : Prop where
  lst : Kd.R Kd.string 9 w' w.heap.size ok v x
  blk : w'.heap[gb]? = some (.cells #[v, .map (some b1), .map (some b2)] 55 (0, 0))
  far : MapS.M w' b1 c f
  way : MapS.M w' b2 c g
  ge : w.heap.size ≤ gb ∧ w.heap.size ≤ b1 ∧ w.heap.size ≤ b2 ∧ b1 ≠ b2
  bel : Below w.heap.size w w'
theorem impl_searched.St.below {w w' w2 : World} {gb b1 b2 : Nat} {ok : Nat → Prop} {v : Value} {x : List ByteArray} {f g : ByteArray → Option Int} {c : Nat} (h : impl_searched.St w w' gb b1 b2 ok v x f g c) (hb : Below w'.heap.size w' w2) : impl_searched.St w w2 gb b1 b2 ok v x f g c :=
  ⟨Kd.R_below h.lst hb, blk_below h.blk hb, MapS.M_below h.far hb, MapS.M_below h.way hb, h.ge, below_step h.bel hb⟩
theorem impl_searched.St.own {w w' : World} {gb b1 b2 : Nat} {ok : Nat → Prop} {v : Value} {x : List ByteArray} {f g : ByteArray → Option Int} {c n : Nat} {b : Nat} {q : ByteArray → Option Int} (h : impl_searched.St w w' gb b1 b2 ok v x f g c) (hM : MapS.M w' b n q) : some b ≠ v.ownBlock := fun e => by
  obtain ⟨cells, hc⟩ := Kd.R_typed h.lst b e.symm
  exact MapS.M_apart hM hc rfl
theorem impl_searched.St.more {w w' : World} {gb b1 b2 : Nat} {ok : Nat → Prop} {v : Value} {x : List ByteArray} {f g : ByteArray → Option Int} {c : Nat} (h : impl_searched.St w w' gb b1 b2 ok v x f g c) : impl_searched.St w w' gb b1 b2 ok v x f g (c + 1) :=
  ⟨h.lst, h.blk, MapS.M_mono h.far (Nat.le_succ _), MapS.M_mono h.way (Nat.le_succ _), h.ge, h.bel⟩
theorem impl_searched.St.put1 {w w' w2 : World} {gb b1 b2 : Nat} {ok : Nat → Prop} {v : Value} {x : List ByteArray} {f f2 g : ByteArray → Option Int} {c : Nat} (h : impl_searched.St w w' gb b1 b2 ok v x f g c) (hM : MapS.M w2 b1 (c + 1) f2) (hg : w'.grownBy w2 (some b1)) : impl_searched.St w w2 gb b1 b2 ok v x f2 g (c + 1) :=
  ⟨Kd.R_grown2 h.lst rfl hg (fun k hk => by cases hk; exact h.own h.far), blk_grown h.blk hg (fun e => MapS.M_apart h.far h.blk (Option.some.inj e)), hM, MapS.M_mono (MapS.M_grown h.way hg (fun e => h.ge.2.2.2 (Option.some.inj e).symm)) (Nat.le_succ _), h.ge, h.bel.grown hg h.bel.size (fun k hk => by cases hk; exact h.ge.2.1)⟩
theorem impl_searched.St.put2 {w w' w2 : World} {gb b1 b2 : Nat} {ok : Nat → Prop} {v : Value} {x : List ByteArray} {f g g2 : ByteArray → Option Int} {c : Nat} (h : impl_searched.St w w' gb b1 b2 ok v x f g c) (hM : MapS.M w2 b2 (c + 1) g2) (hg : w'.grownBy w2 (some b2)) : impl_searched.St w w2 gb b1 b2 ok v x f g2 (c + 1) :=
  ⟨Kd.R_grown2 h.lst rfl hg (fun k hk => by cases hk; exact h.own h.way), blk_grown h.blk hg (fun e => MapS.M_apart h.way h.blk (Option.some.inj e)), MapS.M_mono (MapS.M_grown h.far hg (fun e => h.ge.2.2.2 (Option.some.inj e))) (Nat.le_succ _), hM, h.ge, h.bel.grown hg h.bel.size (fun k hk => by cases hk; exact h.ge.2.2.1)⟩
theorem impl_searched.grown_set (W : World) (g i : Nat) (u : Value) : W.grownBy (W.setCell ⟨g, i, none⟩ u) (some g) :=
  ⟨rfl, rfl, rfl, by simp [World.setCell], fun k _ hk => Below.heap_setCell _ _ _ _ (fun e => hk (by rw [e]))⟩
/-- The list grown, its row put back into the struct. -/
theorem impl_searched.St.push {w w' w1 : World} {gb b1 b2 : Nat} {ok : Nat → Prop} {v v1 : Value} {x x1 : List ByteArray} {f g : ByteArray → Option Int} {c : Nat} (h : impl_searched.St w w' gb b1 b2 ok v x f g c) (ho : Kd.R Kd.string 9 w1 w.heap.size ok v1 x1) (hb : Below w.heap.size w w1) (hg : w'.grownBy w1 v.ownBlock) :
    impl_searched.St w (w1.setCell ⟨gb, 0, none⟩ v1) gb b1 b2 ok v1 x1 f g c := by
  have hk : w1.heap[gb]? = some (.cells #[v, .map (some b1), .map (some b2)] 55 (0, 0)) := blk_grown h.blk hg (Kd.R_ne h.lst h.blk (by decide))
  have h1 := MapS.M_grown h.far hg (h.own h.far)
  have h2 := MapS.M_grown h.way hg (h.own h.way)
  exact ⟨Kd.R_grown2 ho rfl (impl_searched.grown_set w1 gb 0 v1) (fun k hk2 => by cases hk2; exact Kd.R_ne ho hk (by decide)), blk_put hk 0 v1 rfl, MapS.M_set h1 _ _ (fun e => MapS.M_apart h1 hk e.symm), MapS.M_set h2 _ _ (fun e => MapS.M_apart h2 hk e.symm), h.ge, below_set hb h.ge.1⟩
/-- At most so many ways are held. -/
def impl_searched.cap (a : Int) : Int := if 1000000000000001 < a then 1000000000000001 else a
theorem impl_searched.cap_wf {a : Int} (h : (Lit.int .i64 a).wf = true) : (Lit.int .i64 (impl_searched.cap a)).wf = true := by
  unfold impl_searched.cap
  split
  · decide
  · exact h
mutual
def impl_searched.l0 (moves : Nat → ByteArray → Option (List ByteArray)) : Nat → List ByteArray → (ByteArray → Option Int) → (ByteArray → Option Int) → Nat → Int → Option (List ByteArray × (ByteArray → Option Int) × (ByteArray → Option Int))
  | 0, _, _, _, _, _ => none
  | k + 1, x, f, g, c, i => if i < (x.length : Int) then (if 0 ≤ i then ((moves k (rdOf ByteArray.empty x i)).bind fun ts => impl_searched.l1 moves k (rdOf ByteArray.empty x i) ts x f g c i 0) else none) else some (x, f, g)
def impl_searched.l1 (moves : Nat → ByteArray → Option (List ByteArray)) : Nat → ByteArray → List ByteArray → List ByteArray → (ByteArray → Option Int) → (ByteArray → Option Int) → Nat → Int → Int → Option (List ByteArray × (ByteArray → Option Int) × (ByteArray → Option Int))
  | 0, _, _, _, _, _, _, _, _ => none
  | k + 1, s, ts, x, f, g, c, i, j => if j < (ts.length : Int) then (if 0 ≤ j then (if s.size ≤ maxLen ∧ (rdOf ByteArray.empty ts j).size ≤ maxLen ∧ c < 4398046511104 ∧ x.length < 4398046511104 then
      (if (f (rdOf ByteArray.empty ts j)).isSome = true then
        (if (f (rdOf ByteArray.empty ts j)).getD 0 = wrap64 ((f s).getD 0 + 1)
          then impl_searched.l1 moves k s ts x f (MapS.upd g (rdOf ByteArray.empty ts j) (impl_searched.cap (wrap64 ((g (rdOf ByteArray.empty ts j)).getD 0 + (g s).getD 0)))) (c + 1) i (wrap64 (j + 1))
          else impl_searched.l1 moves k s ts x f g (c + 1) i (wrap64 (j + 1)))
      else
        (if wrap64 ((f s).getD 0 + 1) = wrap64 ((MapS.upd f (rdOf ByteArray.empty ts j) (wrap64 ((f s).getD 0 + 1)) s).getD 0 + 1)
          then impl_searched.l1 moves k s ts (x ++ [rdOf ByteArray.empty ts j]) (MapS.upd f (rdOf ByteArray.empty ts j) (wrap64 ((f s).getD 0 + 1))) (MapS.upd g (rdOf ByteArray.empty ts j) (impl_searched.cap (wrap64 ((g (rdOf ByteArray.empty ts j)).getD 0 + (g s).getD 0)))) (c + 1 + 1) i (wrap64 (j + 1))
          else impl_searched.l1 moves k s ts (x ++ [rdOf ByteArray.empty ts j]) (MapS.upd f (rdOf ByteArray.empty ts j) (wrap64 ((f s).getD 0 + 1))) g (c + 1 + 1) i (wrap64 (j + 1)))) else none) else none) else impl_searched.l0 moves k x f g c (wrap64 (i + 1))
end
def impl_searched.f (moves : Nat → ByteArray → Option (List ByteArray)) (k : Nat) (a0 : ByteArray) : Option (List ByteArray × (ByteArray → Option Int) × (ByteArray → Option Int)) := impl_searched.l0 moves k [a0] (MapS.upd (fun _ => none) a0 0) (MapS.upd (fun _ => none) a0 1) 1 0
theorem impl_searched.mono_l {moves : Nat → ByteArray → Option (List ByteArray)} (hr : ∀ x0 n, LeO (moves n x0) (moves (n + 1) x0)) : ∀ k, (∀ y0 y1 y2 y3 y4, LeO (impl_searched.l0 moves k y0 y1 y2 y3 y4) (impl_searched.l0 moves (k + 1) y0 y1 y2 y3 y4)) ∧ (∀ y0 y1 y2 y3 y4 y5 y6 y7, LeO (impl_searched.l1 moves k y0 y1 y2 y3 y4 y5 y6 y7) (impl_searched.l1 moves (k + 1) y0 y1 y2 y3 y4 y5 y6 y7))
  | 0 => ⟨fun _ _ _ _ _ r h => by simp [impl_searched.l0] at h, fun _ _ _ _ _ _ _ _ r h => by simp [impl_searched.l1] at h⟩
  | k + 1 => by
    obtain ⟨ih0, ih1⟩ := impl_searched.mono_l hr k
    refine ⟨?_, ?_⟩
    · intro y0 y1 y2 y3 y4
      unfold impl_searched.l0
      repeat' first
      | (with_reducible exact ih1 _ _ _ _ _ _ _ _)
      | (with_reducible exact hr _ _)
      | (with_reducible exact LeO.refl _)
      | (with_reducible exact LeO.none _)
      | (with_reducible refine LeO.ite ?_ ?_)
      | (with_reducible refine LeO.bind ?_ (fun _ => ?_))
      | exact ih1 _ _ _ _ _ _ _ _
      | exact hr _ _
      | exact LeO.none _
      | refine LeO.ite ?_ ?_
      | refine LeO.bind ?_ (fun _ => ?_)
    · intro y0 y1 y2 y3 y4 y5 y6 y7
      unfold impl_searched.l1
      repeat' first
      | (with_reducible exact ih1 _ _ _ _ _ _ _ _)
      | (with_reducible exact ih0 _ _ _ _ _)
      | (with_reducible exact LeO.refl _)
      | (with_reducible exact LeO.none _)
      | (with_reducible refine LeO.ite ?_ ?_)
      | exact ih1 _ _ _ _ _ _ _ _
      | exact ih0 _ _ _ _ _
      | exact LeO.none _
      | refine LeO.ite ?_ ?_
theorem impl_searched.mono {moves : Nat → ByteArray → Option (List ByteArray)} (hr : ∀ x0 n, LeO (moves n x0) (moves (n + 1) x0)) : ∀ a0 k, LeO (impl_searched.f moves k a0) (impl_searched.f moves (k + 1) a0) := fun _ k => (impl_searched.mono_l hr k).1 _ _ _ _ _
theorem impl_searched.goesV_ {ops : Array Oper} {rest : List Oper} {oi : Oper} {a : Act} {w : World} {Q : Exit → Act → World → Prop} {f : FuncId} {lb : Array Value} {as_ : Array Operand} {ts : Array TypeId} {v : Operand} (N : Option Tmp) (hd : oi.dst = N) (hg : oi.guard = none) (args : Array Value)
    (hop : oi.op = .call { callee := .value v, args := as_, argTypes := ts }) (hv : a.eval v = .func (.func f) #[] lb) (hargs : as_.map a.eval = args) (eg : Go.Proofs.Enters Tryd.prog f)
    (h : Calls Tryd.prog f (args ++ lb) w fun e w' => ∃ v, e = .returned v ∧ wpList Tryd.prog ops Q rest (a.put N v) w') : wpList Tryd.prog ops Q (oi :: rest) a w := by
  refine wpList_plain hg fun K hK => ?_
  have he := eg (args ++ lb) w
  have hrun : (execOp a.eval oi).run Tryd.prog w = .ok (.enter f (args ++ lb)) w := by
    unfold execOp
    simp [hop, resolve, Deferred.ofValue, invoke, hv, hargs, he]
  unfold Oper.wp
  rw [hrun, Oper.upon_enter]
  refine h.mono fun e w'' hh => ?_
  obtain ⟨v, rfl, hk⟩ := hh
  subst hd
  exact hK _ _ hk
set_option maxHeartbeats 8000000 in
set_option maxRecDepth 100000 in
theorem impl_searched.calls (gf : Nat) (lb : Array Value) (eg : Go.Proofs.Enters Tryd.prog gf) (moves : Nat → ByteArray → Option (List ByteArray)) (k : Nat) (a0 : ByteArray) (r : List ByteArray × (ByteArray → Option Int) × (ByteArray → Option Int)) (w : World) (hs : a0.size ≤ maxLen)
    (hp : ∀ (j : Nat) (x : ByteArray) (ts : List ByteArray) (W : World), Below w.heap.size w W → moves j x = some ts → Calls Tryd.prog gf (#[.string x] ++ lb) W fun e w' => ∃ v, e = .returned v ∧ Kd.R Kd.string 9 w' W.heap.size (fun _ => True) v ts ∧ Below W.heap.size W w')
    (h : impl_searched.f moves k a0 = some r) :
    Calls Tryd.prog 55 #[.string a0, .func (.func gf) #[] lb] w fun e w' => ∃ gb, e = .returned (.pointer (some ⟨gb, 0, none⟩)) ∧ ∃ b1 b2 v c, impl_searched.St w w' gb b1 b2 (fun _ => True) v r.1 r.2.1 r.2.2 c := by
  have hmm := @run_makeMap Tryd.prog
  have HP_ := Aside0.mk hp
  clear hp
  have EG_ := Aside0.mk eg
  clear eg
  have HS := Aside0.mk hs
  clear hs
  have H' := Aside0.mk (show impl_searched.l0 moves k [a0] (MapS.upd (fun _ => none) a0 0) (MapS.upd (fun _ => none) a0 1) 1 0 = some r from h)
  clear h
  go_enter Tryd.func55, Tryd.ntmps55
  go_wp2_with (first | ((with_reducible refine gate_dst (N := 13) rfl ?_); refine Kd.R_lit Kd.string _ 9 ?hg (N := 13) ?hd (xs := ([a0] : List ByteArray)) (inner := [.string a0]) (ok := fun _ => True) (okp := fun _ => True) ?hr ?hp (fun _ hk => hk) trivial (Below.refl _ _) (Nat.le_refl _) (by simp) ?_; (case hd => rfl); (case hg => rfl); (case hr => first | (go_simp; done) | (go_simp; rfl)); (case hp => exact (Reps.one (show Kd.M Kd.string _ _ _ a0 [.string a0] from rfl) (Reps.none _ _))); intro v1 w1 ho hb hg_ hnew_; clear hg_ hnew_; obtain ⟨A1, c1, eo⟩ := Kd.R_slice ho; subst eo; have HL := Aside0.mk ho; have HB := Aside0.mk hb; clear ho hb) | (refine MapS.upd_ (MapS.M_made _) (by decide) HS.out (c := 0) (by decide) rfl (.tmp 14) _ _ (Or.inr rfl) rfl rfl rfl ?_; intro w2 hM hg2; have HM1 := Aside0.mk hM; have HG2 := Aside0.mk hg2; clear hM hg2) | (refine MapS.upd_ (MapS.M_made _) (by decide) HS.out (c := 1) (by decide) rfl (.tmp 17) _ _ (Or.inr rfl) rfl rfl rfl ?_; intro w3 hM hg3; have HM2 := Aside0.mk hM; have HG3 := Aside0.mk hg3; clear hM hg3) | ((with_reducible refine gate_dst (N := 21) rfl ?_); refine box_event ?hg (N := 21) ?hd (cs := #[.slice A1 [a0].length c1, .map (some w1.heap.size), .map (some w2.heap.size)]) (t := 55) ?hr ?_; (case hd => rfl); (case hg => rfl); (case hr => first | (go_simp; done) | (go_simp; rfl)); intro gb hg4 w4 hbox hb4; have BK := Aside0.mk hbox; have HB4 := Aside0.mk hb4; have HG4 := Aside0.mk hg4; clear hbox hb4 hg4))
  have S0 : impl_searched.St w w4 gb w1.heap.size w2.heap.size (fun _ => True) (.slice A1 [a0].length c1) [a0] (MapS.upd (fun _ => none) a0 0) (MapS.upd (fun _ => none) a0 1) 1 := by
    have hle : w.heap.size ≤ w1.heap.size := HB.out.size
    have hl1 : w1.heap.size < w2.heap.size := by have := HG2.out.size; simp at this; omega
    have hl2 : w2.heap.size ≤ w3.heap.size := by have := HG3.out.size; simp at this; omega
    have ha := Kd.R_grown2 (Kd.R_alloc HL.out (.map #[] 0)) rfl HG2.out (fun k hk => by cases hk; intro e; exact absurd (Kd.R_lt HL.out _ e.symm) (Nat.lt_irrefl _))
    have hb := Kd.R_grown2 (Kd.R_alloc ha (.map #[] 0)) rfl HG3.out (fun k hk => by cases hk; intro e; exact absurd (Kd.R_lt ha _ e.symm) (Nat.lt_irrefl _))
    have hm := MapS.M_grown (MapS.M_alloc HM1.out (.map #[] 0)) HG3.out (fun e => by have := Option.some.inj e; omega)
    have hB2 : Below w.heap.size w w2 := (below_alloc HB.out (.map #[] 0)).grown HG2.out (by simp; omega) (fun k hk => by cases hk; exact hle)
    have hB3 : Below w.heap.size w w3 := (below_alloc hB2 (.map #[] 0)).grown HG3.out (by simp; omega) (fun k hk => by cases hk; omega)
    exact ⟨Kd.R_below hb HB4.out, BK.out, MapS.M_below hm HB4.out, MapS.M_below HM2.out HB4.out, ⟨by rw [HG4.out]; omega, hle, by omega, by omega⟩, below_step hB3 HB4.out⟩
  have SS := Aside0.mk S0
  clear S0 HL HB HM1 HM2 HG2 HG3 BK HB4 HG4
  generalize hn1 : w1.heap.size = b1 at SS ⊢
  generalize hn2 : w2.heap.size = b2 at SS ⊢
  clear hn1 hn2
  go_loopg [6] k (fun kq v6 w' => ∃ (v : Value) (x : List ByteArray) (f g : ByteArray → Option Int) (c : Nat) (i : Int), v6 = .int .i64 i ∧ Aside0 (impl_searched.l0 moves kq x f g c i = some r) ∧ Aside0 (kq ≤ k) ∧ Aside0 (impl_searched.St w w' gb b1 b2 (fun _ => True) v x f g c))
  case atStart => exact ⟨_, [a0], _, _, 1, 0, (by first | rfl | (simp; done) | (simp [*]; done)), H', ⟨Nat.le_refl _⟩, SS⟩
  case round =>
    clear H' SS
    obtain ⟨v, x, f, g, c, i, rfl, HA, HK1, SS⟩ := hrel
    cases gk with
    | zero => exact absurd HA.out (by simp [impl_searched.l0])
    | succ k1 =>
      have H := HA.out
      clear HA
      simp only [impl_searched.l0] at H
      obtain ⟨A2, c2, eo⟩ := Kd.R_slice SS.out.lst
      subst eo
      have hz0 : wr.cell? ⟨gb, 0, none⟩ = some (.slice A2 x.length c2) := (blk_cell SS.out.blk 0).trans rfl
      by_cases c5 : i < (x.length : Int)
      · rw [if_pos c5] at H
        have c5b0 : decide (i < (x.length : Int)) = true := decide_eq_true c5
        clear c5
        by_cases c6 : 0 ≤ i
        · rw [if_pos c6] at H
          have c6b0 : decide (0 ≤ i) = true := decide_eq_true c6
          clear c6
          obtain ⟨ts, A70, H⟩ := Option.bind_eq_some_iff.mp H
          have A7 := Aside0.mk A70
          have H' := Aside0.mk H
          clear A70 H
          have p1 : 0 ≤ (i : Int) := of_decide_eq_true (by assumption)
          have q1 : i < (x.length : Int) := of_decide_eq_true (by assumption)
          obtain ⟨ad1, e1, hx1⟩ := Kd.at_string (Kd.R_reads' SS.out.lst).2.2 i p1 q1
          cases e1
          replace p1 := eq_true p1
          replace q1 := eq_true q1
          generalize hs1 : rdOf ByteArray.empty x i = s1 at hx1 A7 H'
          clear hs1
          go_wp2_with (first | ((with_reducible refine gate_dst (N := 40) rfl ?_); refine impl_searched.goesV_ (f := gf) (lb := lb) (some 40) rfl rfl #[.string s1] rfl rfl (by (try simp only [List.map_toArray, List.map_cons, List.map_nil]); first | done | rfl) EG_.out ?_; (with_reducible refine (HP_.out k1 s1 ts _ SS.out.bel A7.out).mono ?_); rintro e w8 ⟨vt, rfl, ho, hb⟩; refine ⟨_, rfl, ?_⟩; obtain ⟨A3, c3, eo⟩ := Kd.R_slice ho; subst eo; have ST := Aside0.mk (Kd.R_lower (Kd.R_new' ho (Kd.R_lt SS.out.lst)) SS.out.bel.size); have n0 := Aside0.mk (show impl_searched.St w w8 gb b1 b2 (fun k => True ∧ some k ≠ (.slice A3 ts.length c3 : Value).ownBlock) (.slice (some ad1) x.length c2) x f g c from ⟨Kd.R_elder' SS.out.lst (Kd.R_base ho) hb, (SS.out.below hb).blk, (SS.out.below hb).far, (SS.out.below hb).way, SS.out.ge, (SS.out.below hb).bel⟩); clear SS; have SS := n0; clear n0 ho hb))
          clear hx1 hz0 p1 q1
          go_loopg [42] k1 (fun kq v42 w' => ∃ (v : Value) (x : List ByteArray) (f g : ByteArray → Option Int) (c : Nat) (j : Int), v42 = .int .i64 j ∧ Aside0 (impl_searched.l1 moves kq s1 ts x f g c i j = some r) ∧ Aside0 (kq ≤ k1) ∧ Aside0 (Kd.R Kd.string 9 w' w.heap.size (fun k => True ∧ some k ≠ v.ownBlock) (.slice A3 ts.length c3) ts) ∧ Aside0 (impl_searched.St w w' gb b1 b2 (fun k => True ∧ some k ≠ (.slice A3 ts.length c3 : Value).ownBlock) v x f g c))
          case atStart => exact ⟨_, x, f, g, c, 0, (by first | rfl | (simp; done) | (simp [*]; done)), H', ⟨Nat.le_refl _⟩, ST, SS⟩
          case round =>
            clear H' ST SS c5b0 c6b0 A7
            obtain ⟨v, x, f, g, c, j, rfl, HA, HK2, ST, SS⟩ := hrel
            cases gk with
            | zero => exact absurd HA.out (by simp [impl_searched.l1])
            | succ k2 =>
              have H := HA.out
              clear HA
              simp only [impl_searched.l1] at H
              by_cases c7 : j < (ts.length : Int)
              · rw [if_pos c7] at H
                have c7b0 : decide (j < (ts.length : Int)) = true := decide_eq_true c7
                clear c7
                by_cases c8 : 0 ≤ j
                · rw [if_pos c8] at H
                  have c8b0 : decide (0 ≤ j) = true := decide_eq_true c8
                  clear c8
                  obtain ⟨A4, c4, eo⟩ := Kd.R_slice SS.out.lst
                  subst eo
                  have p2 : 0 ≤ (j : Int) := of_decide_eq_true (by assumption)
                  have q2 : j < (ts.length : Int) := of_decide_eq_true (by assumption)
                  obtain ⟨ad2, e2, hx2⟩ := Kd.at_string (Kd.R_reads' ST.out).2.2 j p2 q2
                  cases e2
                  replace p2 := eq_true p2
                  replace q2 := eq_true q2
                  generalize hs2 : rdOf ByteArray.empty ts j = t at hx2 H
                  clear hs2
                  by_cases c9 : s1.size ≤ maxLen ∧ t.size ≤ maxLen ∧ c < 4398046511104 ∧ x.length < 4398046511104
                  · rw [if_pos c9] at H
                    have G9 := Aside0.mk c9
                    clear c9
                    have hz0 : wr.cell? ⟨gb, 0, none⟩ = some (.slice A4 x.length c4) := (blk_cell SS.out.blk 0).trans rfl
                    have hz1 : wr.cell? ⟨gb, 1, none⟩ = some (.map (some b1)) := (blk_cell SS.out.blk 1).trans rfl
                    have hz2 : wr.cell? ⟨gb, 2, none⟩ = some (.map (some b2)) := (blk_cell SS.out.blk 2).trans rfl
                    have hzf := blk_frozen SS.out.blk 0
                    obtain ⟨n1, hn1⟩ : ∃ n, (f s1).getD 0 = n := ⟨_, rfl⟩
                    obtain ⟨n2, hn2⟩ : ∃ n, (f t).getD 0 = n := ⟨_, rfl⟩
                    have N1 := Aside0.mk hn1
                    have N2 := Aside0.mk hn2
                    by_cases c10 : (f t).isSome = true
                    · rw [if_pos c10, hn1, hn2] at H
                      have F10 := Aside0.mk c10
                      clear c10 hn1 hn2
                      by_cases c11 : n2 = wrap64 (n1 + 1)
                      · rw [if_pos c11] at H
                        have c11b0 : (n2 == wrap64 (n1 + 1)) = true := beq_iff_eq.mpr c11
                        clear c11
                        obtain ⟨n3, hn3⟩ : ∃ n, (g t).getD 0 = n := ⟨_, rfl⟩
                        obtain ⟨n4, hn4⟩ : ∃ n, (g s1).getD 0 = n := ⟨_, rfl⟩
                        rw [hn3, hn4] at H
                        have H' := Aside0.mk H
                        clear H
                        go_wp2_with (first | (at_lookup; refine MapS.look2_v SS.out.far N2.out F10.out G9.out.2.1 rfl _ _ rfl rfl rfl ?_) | (at_lookup; refine MapS.look_v SS.out.far N1.out G9.out.1 rfl _ _ rfl rfl rfl ?_))
                        have hl3 := MapS.M_look (MapS.M_drew SS.out.way) t G9.out.2.1
                        have hl4 := MapS.M_look (MapS.M_drew SS.out.way) s1 G9.out.1
                        rw [hn3] at hl3
                        rw [hn4] at hl4
                        clear hn3 hn4
                        obtain ⟨w9, hput, hM, hg9⟩ := MapS.M_put (MapS.M_drew SS.out.way) (Nat.lt_of_lt_of_le G9.out.2.2.1 (by decide)) t G9.out.2.1 (impl_searched.cap (wrap64 (n3 + n4))) (impl_searched.cap_wf (wrap64_wf _))
                        simp only [impl_searched.cap] at hput
                        have SD := SS.out.below (Below.refl _ _).drew
                        have n0 := Aside0.mk (SD.put2 hM hg9)
                        have n9 := Aside0.mk (Kd.R_grown2 (Kd.R_drew ST.out) rfl hg9 (fun k hk => by cases hk; intro e; obtain ⟨cells, hc⟩ := Kd.R_typed ST.out _ e.symm; exact MapS.M_apart SS.out.way hc rfl))
                        clear hM hg9 SD
                        go_region
                        all_goals go_wp2
                        all_goals (go_roundg k2; (case measure => have := HK1.out; have := HK2.out; omega); (case rel => exact ⟨_, _, _, _, _, (wrap64 (j + 1)), (by first | rfl | (simp; done) | (simp [*]; done)), H', ⟨by have := HK1.out; have := HK2.out; omega⟩, n9, n0⟩))
                      · rw [if_neg c11] at H
                        have c11b0 : (n2 == wrap64 (n1 + 1)) = false := beq_eq_false_iff_ne.mpr c11
                        clear c11
                        have H' := Aside0.mk H
                        clear H
                        go_wp2_with (first | (at_lookup; refine MapS.look2_v SS.out.far N2.out F10.out G9.out.2.1 rfl _ _ rfl rfl rfl ?_) | (at_lookup; refine MapS.look_v SS.out.far N1.out G9.out.1 rfl _ _ rfl rfl rfl ?_))
                        go_roundg k2
                        case measure => have := HK1.out; have := HK2.out; omega
                        case rel => exact ⟨_, x, f, g, c + 1, (wrap64 (j + 1)), (by first | rfl | (simp; done) | (simp [*]; done)), H', ⟨by have := HK1.out; have := HK2.out; omega⟩, ST, ⟨SS.out.more⟩⟩
                    · rw [if_neg c10, hn1] at H
                      have F10 := Aside0.mk (Bool.eq_false_iff.mpr c10)
                      clear c10 hn1 hn2
                      obtain ⟨n5, hn5⟩ : ∃ n, (MapS.upd f t (wrap64 (n1 + 1)) s1).getD 0 = n := ⟨_, rfl⟩
                      rw [hn5] at H
                      have N5 := Aside0.mk hn5
                      clear hn5
                      obtain ⟨y, hy⟩ : ∃ y : List ByteArray, y = x ++ [t] := ⟨_, rfl⟩
                      rw [← hy] at H
                      have NY := Aside0.mk hy
                      clear hy
                      by_cases c11 : wrap64 (n1 + 1) = wrap64 (n5 + 1)
                      · rw [if_pos c11] at H
                        have c11b0 : (wrap64 (n1 + 1) == wrap64 (n5 + 1)) = true := beq_iff_eq.mpr c11
                        clear c11
                        obtain ⟨n3, hn3⟩ : ∃ n, (g t).getD 0 = n := ⟨_, rfl⟩
                        obtain ⟨n4, hn4⟩ : ∃ n, (g s1).getD 0 = n := ⟨_, rfl⟩
                        rw [hn3, hn4] at H
                        have H' := Aside0.mk H
                        clear H
                        go_wp2_with (first | (at_lookup; refine MapS.look2_v SS.out.far N2.out F10.out G9.out.2.1 rfl _ _ rfl rfl rfl ?_) | (at_lookup; refine MapS.look_v SS.out.far N1.out G9.out.1 rfl _ _ rfl rfl rfl ?_) | (at_lookup; refine MapS.look_v SS.out.far N5.out G9.out.1 rfl _ _ rfl rfl rfl ?_) | (at_mapUpdate; refine MapS.upd_ SS.out.far (Nat.lt_of_lt_of_le G9.out.2.2.1 (by decide)) G9.out.2.1 (c := wrap64 (n1 + 1)) (wrap64_wf _) rfl (.tmp 67) _ _ (Or.inl rfl) rfl rfl rfl ?_; intro w5 hM hg5; have m0 := Aside0.mk (SS.out.put1 hM hg5); have m1 := Aside0.mk (Kd.R_grown2 ST.out rfl hg5 (fun k hk => by cases hk; intro e; obtain ⟨cells, hc⟩ := Kd.R_typed ST.out _ e.symm; exact MapS.M_apart SS.out.far hc rfl)); clear SS ST hz0 hz1 hz2 hzf hM hg5; have SS := m0; have ST := m1; clear m0 m1; have hz0 : w5.cell? ⟨gb, 0, none⟩ = some (.slice A4 x.length c4) := (blk_cell SS.out.blk 0).trans rfl) | ((with_reducible refine gate_builtin (b := .append) (xs := #[.tmp 74, .tmp 76]) rfl ?_); at_builtin; refine Kd.R_append Kd.string (w0 := w) w.heap.size rfl (.tmp 74) (.tmp 76) 22 9 (.string ⟨#[]⟩) 16 rfl Tryd.underlying22 info9 rfl (by decide) (by omega) (.slice A4 x.length c4) x t [.string t] (fun k => True ∧ some k ≠ (.slice (some ad2) ts.length c3 : Value).ownBlock) (fun _ => False) rfl rfl ?aP (fun _ hk => hk.elim) ?aF ?aO ?aB ?aS ?aL ?_; (case aP => exact rfl); (case aB => exact SS.out.bel); (case aF => exact fun k hk => ⟨trivial, fun e => absurd (Kd.R_lt ST.out k e.symm) (Nat.not_lt.2 hk)⟩); (case aO => exact SS.out.lst); (case aS => exact SS.out.bel.size); (case aL => have := G9.out.2.2.2; omega); intro v6 w6 ho hb hg hat; rw [← NY.out] at ho; obtain ⟨A6, c6, eo⟩ := Kd.R_slice ho; subst eo; have HO6 := Aside0.mk ho; have HB6 := Aside0.mk hb; have HG6 := Aside0.mk hg; have ST6 := Aside0.mk (Kd.R_after ST.out hg hat); have BK6 := Aside0.mk (blk_grown SS.out.blk hg (Kd.R_ne SS.out.lst SS.out.blk (by decide))); clear ho hb hg hat ST hz0; have hz0 : w6.cell? ⟨gb, 0, none⟩ = some (.slice A4 x.length c4) := (blk_cell BK6.out 0).trans rfl; have hzf := blk_frozen BK6.out 0) | ((with_reducible refine gate_store (t := 22) (p := 79) rfl ?_); refine store_event (t := 22) (p := 79) (v := ?vo) (w1 := (w6.setCell ⟨gb, 0, none⟩ (.slice A6 y.length c6))) ?hg ?ho ?hn ?hr ?_; (case ho => rfl); (case hg => rfl); (case hn => rfl); (case hr => first | (go_simp; done) | (go_simp; rfl)); intro w7 hw; have m0 := SS.out.push HO6.out HB6.out HG6.out; rw [← hw] at m0; have m0 := Aside0.mk m0; have m1 := Kd.R_grown2 ST6.out rfl (impl_searched.grown_set w6 gb 0 (.slice A6 y.length c6)) (fun k hk => by cases hk; exact Kd.R_ne ST6.out BK6.out (by decide)); rw [← hw] at m1; have m1 := Aside0.mk m1; clear SS ST6 HO6 HB6 HG6 BK6 hz0 hzf hw; have SS := m0; have ST := m1; clear m0 m1; have hz1 : w7.cell? ⟨gb, 1, none⟩ = some (.map (some b1)) := (blk_cell SS.out.blk 1).trans rfl; have hz2 : w7.cell? ⟨gb, 2, none⟩ = some (.map (some b2)) := (blk_cell SS.out.blk 2).trans rfl))
                        have hl3 := MapS.M_look (MapS.M_drew SS.out.way) t G9.out.2.1
                        have hl4 := MapS.M_look (MapS.M_drew SS.out.way) s1 G9.out.1
                        rw [hn3] at hl3
                        rw [hn4] at hl4
                        clear hn3 hn4
                        obtain ⟨w9, hput, hM, hg9⟩ := MapS.M_put (MapS.M_drew SS.out.way) (Nat.lt_of_lt_of_le (Nat.succ_lt_succ G9.out.2.2.1) (by decide)) t G9.out.2.1 (impl_searched.cap (wrap64 (n3 + n4))) (impl_searched.cap_wf (wrap64_wf _))
                        simp only [impl_searched.cap] at hput
                        have SD := SS.out.below (Below.refl _ _).drew
                        have n0 := Aside0.mk (SD.put2 hM hg9)
                        have n9 := Aside0.mk (Kd.R_grown2 (Kd.R_drew ST.out) rfl hg9 (fun k hk => by cases hk; intro e; obtain ⟨cells, hc⟩ := Kd.R_typed ST.out _ e.symm; exact MapS.M_apart SS.out.way hc rfl))
                        clear hM hg9 SD
                        go_region
                        all_goals go_wp2
                        all_goals (go_roundg k2; (case measure => have := HK1.out; have := HK2.out; omega); (case rel => exact ⟨_, _, _, _, _, (wrap64 (j + 1)), (by first | rfl | (simp; done) | (simp [*]; done)), H', ⟨by have := HK1.out; have := HK2.out; omega⟩, n9, n0⟩))
                      · rw [if_neg c11] at H
                        have c11b0 : (wrap64 (n1 + 1) == wrap64 (n5 + 1)) = false := beq_eq_false_iff_ne.mpr c11
                        clear c11
                        have H' := Aside0.mk H
                        clear H
                        go_wp2_with (first | (at_lookup; refine MapS.look2_v SS.out.far N2.out F10.out G9.out.2.1 rfl _ _ rfl rfl rfl ?_) | (at_lookup; refine MapS.look_v SS.out.far N1.out G9.out.1 rfl _ _ rfl rfl rfl ?_) | (at_lookup; refine MapS.look_v SS.out.far N5.out G9.out.1 rfl _ _ rfl rfl rfl ?_) | (at_mapUpdate; refine MapS.upd_ SS.out.far (Nat.lt_of_lt_of_le G9.out.2.2.1 (by decide)) G9.out.2.1 (c := wrap64 (n1 + 1)) (wrap64_wf _) rfl (.tmp 67) _ _ (Or.inl rfl) rfl rfl rfl ?_; intro w5 hM hg5; have m0 := Aside0.mk (SS.out.put1 hM hg5); have m1 := Aside0.mk (Kd.R_grown2 ST.out rfl hg5 (fun k hk => by cases hk; intro e; obtain ⟨cells, hc⟩ := Kd.R_typed ST.out _ e.symm; exact MapS.M_apart SS.out.far hc rfl)); clear SS ST hz0 hz1 hz2 hzf hM hg5; have SS := m0; have ST := m1; clear m0 m1; have hz0 : w5.cell? ⟨gb, 0, none⟩ = some (.slice A4 x.length c4) := (blk_cell SS.out.blk 0).trans rfl) | ((with_reducible refine gate_builtin (b := .append) (xs := #[.tmp 74, .tmp 76]) rfl ?_); at_builtin; refine Kd.R_append Kd.string (w0 := w) w.heap.size rfl (.tmp 74) (.tmp 76) 22 9 (.string ⟨#[]⟩) 16 rfl Tryd.underlying22 info9 rfl (by decide) (by omega) (.slice A4 x.length c4) x t [.string t] (fun k => True ∧ some k ≠ (.slice (some ad2) ts.length c3 : Value).ownBlock) (fun _ => False) rfl rfl ?aP (fun _ hk => hk.elim) ?aF ?aO ?aB ?aS ?aL ?_; (case aP => exact rfl); (case aB => exact SS.out.bel); (case aF => exact fun k hk => ⟨trivial, fun e => absurd (Kd.R_lt ST.out k e.symm) (Nat.not_lt.2 hk)⟩); (case aO => exact SS.out.lst); (case aS => exact SS.out.bel.size); (case aL => have := G9.out.2.2.2; omega); intro v6 w6 ho hb hg hat; rw [← NY.out] at ho; obtain ⟨A6, c6, eo⟩ := Kd.R_slice ho; subst eo; have HO6 := Aside0.mk ho; have HB6 := Aside0.mk hb; have HG6 := Aside0.mk hg; have ST6 := Aside0.mk (Kd.R_after ST.out hg hat); have BK6 := Aside0.mk (blk_grown SS.out.blk hg (Kd.R_ne SS.out.lst SS.out.blk (by decide))); clear ho hb hg hat ST hz0; have hz0 : w6.cell? ⟨gb, 0, none⟩ = some (.slice A4 x.length c4) := (blk_cell BK6.out 0).trans rfl; have hzf := blk_frozen BK6.out 0) | ((with_reducible refine gate_store (t := 22) (p := 79) rfl ?_); refine store_event (t := 22) (p := 79) (v := ?vo) (w1 := (w6.setCell ⟨gb, 0, none⟩ (.slice A6 y.length c6))) ?hg ?ho ?hn ?hr ?_; (case ho => rfl); (case hg => rfl); (case hn => rfl); (case hr => first | (go_simp; done) | (go_simp; rfl)); intro w7 hw; have m0 := SS.out.push HO6.out HB6.out HG6.out; rw [← hw] at m0; have m0 := Aside0.mk m0; have m1 := Kd.R_grown2 ST6.out rfl (impl_searched.grown_set w6 gb 0 (.slice A6 y.length c6)) (fun k hk => by cases hk; exact Kd.R_ne ST6.out BK6.out (by decide)); rw [← hw] at m1; have m1 := Aside0.mk m1; clear SS ST6 HO6 HB6 HG6 BK6 hz0 hzf hw; have SS := m0; have ST := m1; clear m0 m1; have hz1 : w7.cell? ⟨gb, 1, none⟩ = some (.map (some b1)) := (blk_cell SS.out.blk 1).trans rfl; have hz2 : w7.cell? ⟨gb, 2, none⟩ = some (.map (some b2)) := (blk_cell SS.out.blk 2).trans rfl))
                        go_roundg k2
                        case measure => have := HK1.out; have := HK2.out; omega
                        case rel => exact ⟨_, _, _, _, _, (wrap64 (j + 1)), (by first | rfl | (simp; done) | (simp [*]; done)), H', ⟨by have := HK1.out; have := HK2.out; omega⟩, ST, ⟨SS.out.more⟩⟩
                  · rw [if_neg c9] at H
                    exact absurd H (by simp)
                · rw [if_neg c8] at H
                  exact absurd H (by simp)
              · rw [if_neg c7] at H
                have c7b0 : decide (j < (ts.length : Int)) = false := decide_eq_false c7
                clear c7
                have H' := Aside0.mk H
                clear H
                go_wp2
                go_roundg k2
                case measure => have := HK1.out; have := HK2.out; omega
                case rel => exact ⟨v, x, f, g, c, (wrap64 (i + 1)), (by first | rfl | (simp; done) | (simp [*]; done)), H', ⟨by have := HK1.out; have := HK2.out; omega⟩, ⟨⟨Kd.R_mono SS.out.lst (fun _ _ => trivial), SS.out.blk, SS.out.far, SS.out.way, SS.out.ge, SS.out.bel⟩⟩⟩
        · rw [if_neg c6] at H
          exact absurd H (by simp)
      · rw [if_neg c5] at H
        have c5b0 : decide (i < (x.length : Int)) = false := decide_eq_false c5
        clear c5
        obtain rfl := Option.some.inj H
        go_wp2
        go_ret
        exact ⟨gb, rfl, b1, b2, _, c, SS.out⟩

/-! ### impl_searchKeyed_1: function 56 (told by hand) -/
/-- The function value of a search by keys: the states behind all moves of a state. -/
def impl_searchKeyed_1.l0 (s : ByteArray) : Nat → List Int → List ByteArray → Int → Option (List ByteArray)
  | 0, _, _, _ => none
  | k + 1, ms, x, i => if i < (ms.length : Int) then (if 0 ≤ i then ((impl_turned.f s (rd ms i)).bind fun t => if x.length < 8796093022208 then impl_searchKeyed_1.l0 s k ms (x ++ [t]) (wrap64 (i + 1)) else none) else none) else some x
def impl_searchKeyed_1.f (l0 : List ByteArray) (k : Nat) (s : ByteArray) : Option (List ByteArray) := (impl_keyedMoves.f k l0 s).bind fun ms => impl_searchKeyed_1.l0 s k ms [] 0
theorem impl_searchKeyed_1.mono_l (s : ByteArray) : ∀ k ms x i, LeO (impl_searchKeyed_1.l0 s k ms x i) (impl_searchKeyed_1.l0 s (k + 1) ms x i)
  | 0, _, _, _ => fun r h => by simp [impl_searchKeyed_1.l0] at h
  | k + 1, ms, x, i => by
    unfold impl_searchKeyed_1.l0
    exact LeO.ite (LeO.ite (LeO.bind (LeO.refl _) (fun _ => LeO.ite (impl_searchKeyed_1.mono_l s k _ _ _) (LeO.none _))) (LeO.none _)) (LeO.refl _)
theorem impl_searchKeyed_1.mono (l0 : List ByteArray) : ∀ s n, LeO (impl_searchKeyed_1.f l0 n s) (impl_searchKeyed_1.f l0 (n + 1) s) := fun s n =>
  LeO.bind (impl_keyedMoves.mono _ _ _) (fun _ => impl_searchKeyed_1.mono_l s n _ _ _)
set_option maxHeartbeats 8000000 in
set_option maxRecDepth 100000 in
theorem impl_searchKeyed_1.calls (B : Nat) (A0 : Option Addr) (c0 : Nat) (l0 : List ByteArray) (k : Nat) (s : ByteArray) (ts : List ByteArray) (w : World) (hbk : w.heap[B]? = some (.cells #[.slice A0 l0.length c0] 22 (0, 0)))
    (hr0 : Kd.C Kd.string w A0 l0.length l0) (hc0 : l0.length ≤ c0) (h : impl_searchKeyed_1.f l0 k s = some ts) :
    Calls Tryd.prog 56 (#[.string s] ++ #[.pointer (some ⟨B, 0, none⟩)]) w fun e w' => ∃ v, e = .returned v ∧ Kd.R Kd.string 9 w' w.heap.size (fun _ => True) v ts ∧ Below w.heap.size w w' := by
  show Calls Tryd.prog 56 #[.string s, .pointer (some ⟨B, 0, none⟩)] w _
  unfold impl_searchKeyed_1.f at h
  obtain ⟨ms, A1_, H⟩ := Option.bind_eq_some_iff.mp h
  have HR0 := Aside0.mk hr0
  have HC0 := Aside0.mk hc0
  have HA0 := Aside0.mk A1_
  have H' := Aside0.mk H
  have hz0 : w.cell? ⟨B, 0, none⟩ = some (.slice A0 l0.length c0) := (blk_cell hbk 0).trans rfl
  clear hr0 hc0 A1_ hbk h H
  go_enter Tryd.func56, Tryd.ntmps56
  go_wp2_with (first | (go_at_call 40; (with_reducible refine (impl_keyedMoves.calls k A0 c0 l0 s ms w HR0.out HC0.out HA0.out).mono ?_); rintro e w6 ⟨vm, rfl, hm, hb⟩; obtain ⟨Am, cm, em⟩ := Kd.R_slice hm; subst em; have HM := Aside0.mk hm; have HB := Aside0.mk hb; clear hm hb))
  go_loopg [4, 11] k (fun kq v4 v11 w' => ∃ (x : List ByteArray) (i : Int), v11 = .int .i64 i ∧ Aside0 (impl_searchKeyed_1.l0 s kq ms x i = some ts) ∧ Aside0 (kq ≤ k) ∧ Aside0 (Kd.R Kd.string 9 w' w.heap.size (fun _ => True) v4 x) ∧ Aside0 (Kd.R (Kd.int .i64) 3 w' w.heap.size (fun _ => True) (.slice Am ms.length cm) ms) ∧ Aside0 (Below w.heap.size w w'))
  case atStart => exact ⟨[], 0, rfl, H', ⟨Nat.le_refl _⟩, ⟨Kd.R_nil _ _ _ _ _⟩, HM, HB⟩
  case round =>
    clear H' HM HB hz0
    obtain ⟨x, i, rfl, HA, HK1, HX, HM, HB⟩ := hrel
    cases gk with
    | zero => exact absurd HA.out (by simp [impl_searchKeyed_1.l0])
    | succ k1 =>
      have H := HA.out
      clear HA
      simp only [impl_searchKeyed_1.l0] at H
      by_cases c4 : i < (ms.length : Int)
      · rw [if_pos c4] at H
        have c4b0 : decide (i < (ms.length : Int)) = true := decide_eq_true c4
        by_cases c5 : 0 ≤ i
        · rw [if_pos c5] at H
          have c5b0 : decide (0 ≤ i) = true := decide_eq_true c5
          obtain ⟨t, A2_, H⟩ := Option.bind_eq_some_iff.mp H
          have A2 := Aside0.mk A2_
          clear A2_
          by_cases c6 : x.length < 8796093022208
          · rw [if_pos c6] at H
            have LM := Aside0.mk c6
            have H' := Aside0.mk H
            clear H c6
            obtain ⟨ad, ea, hx0⟩ := Kd.at_int (Kd.R_reads' HM.out).2.2 i c5 c4
            cases ea
            have q4 := eq_true c4
            have q5 := eq_true c5
            clear c4 c5
            go_wp2_with (first
              | ((with_reducible refine gate_callee (f := 38) rfl ?_); refine goesL_ (some 18) rfl rfl Tryd.func38 (by kernel_rfl) rfl #[.string s, .int .i64 (rd ms i)] rfl (by (try simp only [List.map_toArray, List.map_cons, List.map_nil]); first | done | rfl) ?_; (with_reducible refine (impl_turned.calls s (rd ms i) t _ A2.out).mono ?_); rintro e w18 ⟨rfl, hb⟩; refine ⟨_, rfl, ?_⟩; have n0_ := Aside0.mk (Kd.R_below HX.out hb); have n1_ := Aside0.mk (Kd.R_below HM.out hb); have n4_ := Aside0.mk (below_step HB.out hb); clear HX HM HB hb; have HX := n0_; have HM := n1_; have HB := n4_; clear n0_ n1_ n4_)
              | ((with_reducible refine gate_builtin (b := .append) (xs := #[.tmp 15, .tmp 19]) rfl ?_); at_builtin; refine Kd.R_append Kd.string (w0 := w) w.heap.size rfl (.tmp 15) (.tmp 19) 22 9 (.string ⟨#[]⟩) 16 rfl Tryd.underlying22 info9 rfl (by decide) (by omega) u4 x t [.string t] (fun _ => True) (fun _ => False) rfl rfl ?aP (fun _ hk => hk.elim) ?aF ?aO ?aB ?aS ?aL ?_; (case aP => exact rfl); (case aB => exact HB.out); (case aF => exact (fun _ _ => trivial)); (case aO => exact HX.out); (case aS => exact below_size HB.out); (case aL => have := LM.out; omega); intro v2 w20 ho hb hg hat; have n0_ := Aside0.mk (Kd.R_mono (Kd.R_over' HM.out (Kd.R_typed HX.out) (by decide) hg) (fun _ _ => trivial)); have n3_ := Aside0.mk hb; have n4_ := Aside0.mk ho; clear HM HB HX; have HM := n0_; have HB := n3_; have HX := n4_; clear n0_ n3_ n4_; clear ho hb hg hat))
            go_roundg k1
            case measure => have := HK1.out; omega
            case rel => exact ⟨x ++ [t], wrap64 (i + 1), rfl, H', ⟨by have := HK1.out; omega⟩, ⟨Kd.R_mono HX.out (fun _ _ => trivial)⟩, HM, HB⟩
          · rw [if_neg c6] at H
            cases H
        · rw [if_neg c5] at H
          cases H
      · rw [if_neg c4] at H
        have c4b0 : decide (i < (ms.length : Int)) = false := decide_eq_false c4
        clear c4
        obtain rfl := Option.some.inj H
        go_wp2
        go_ret
        exact ⟨_, rfl, HX.out, HB.out⟩

/-! ### impl_searchKeyed: function 45 (told by hand) -/
theorem impl_searched.St.rebase {w w5 w' : World} {gb b1 b2 : Nat} {ok : Nat → Prop} {v : Value} {x : List ByteArray} {f g : ByteArray → Option Int} {c : Nat} (hB : Below w.heap.size w w5) (h : impl_searched.St w5 w' gb b1 b2 ok v x f g c) : impl_searched.St w w' gb b1 b2 ok v x f g c :=
  ⟨Kd.R_lower h.lst hB.size, h.blk, h.far, h.way, ⟨Nat.le_trans hB.size h.ge.1, Nat.le_trans hB.size h.ge.2.1, Nat.le_trans hB.size h.ge.2.2.1, h.ge.2.2.2⟩, below_step hB h.bel⟩
def impl_searchKeyed.f (k : Nat) (l0 : List ByteArray) (a1 : ByteArray) : Option (List ByteArray × (ByteArray → Option Int) × (ByteArray → Option Int)) := impl_searched.f (impl_searchKeyed_1.f l0) k a1
theorem impl_searchKeyed.mono : ∀ a0 a1 k, LeO (impl_searchKeyed.f k a0 a1) (impl_searchKeyed.f (k + 1) a0 a1) := fun a0 a1 k => impl_searched.mono (impl_searchKeyed_1.mono a0) a1 k
set_option maxHeartbeats 8000000 in
set_option maxRecDepth 100000 in
theorem impl_searchKeyed.calls (k : Nat) (A0 : Option Addr) (c0 : Nat) (l0 : List ByteArray) (a1 : ByteArray) (r : List ByteArray × (ByteArray → Option Int) × (ByteArray → Option Int)) (w : World) (hr0 : Kd.C Kd.string w A0 l0.length l0) (hc0 : l0.length ≤ c0) (hs : a1.size ≤ maxLen) (h : impl_searchKeyed.f k l0 a1 = some r) :
    Calls Tryd.prog 45 #[.slice A0 l0.length c0, .string a1] w fun e w' => ∃ gb, e = .returned (.pointer (some ⟨gb, 0, none⟩)) ∧ ∃ b1 b2 v c, impl_searched.St w w' gb b1 b2 (fun _ => True) v r.1 r.2.1 r.2.2 c := by
  have hmf : ∀ (fn : Fn) (first cap : Array Value) (w : World), (Instr.makeFunc fn first cap).run Tryd.prog w = .ok (.func fn first cap) w := fun _ _ _ _ => rfl
  have HR0 := Aside0.mk hr0
  have HC0 := Aside0.mk hc0
  have HS := Aside0.mk hs
  have HA := Aside0.mk (show impl_searched.f (impl_searchKeyed_1.f l0) k a1 = some r from h)
  clear hr0 hc0 hs h
  go_enter Tryd.func45, Tryd.ntmps45
  go_wp2_with (first | ((with_reducible refine gate_dst (N := 2) rfl ?_); refine box_event ?hg (N := 2) ?hd (cs := #[.slice A0 l0.length c0]) (t := 22) ?hr ?_; (case hd => rfl); (case hg => rfl); (case hr => first | (go_simp; done) | (go_simp; rfl)); intro gb hg w5 hbox hb; have HB := Aside0.mk hb; have BK := Aside0.mk hbox; clear hb hbox hg) | (go_at_call 55; (with_reducible refine (impl_searched.calls 56 #[.pointer (some ⟨gb, 0, none⟩)] (Go.Proofs.enters_of Tryd.func56 (by kernel_rfl) rfl) (impl_searchKeyed_1.f l0) k a1 r w5 HS.out (fun j x ts W' hb' hj => impl_searchKeyed_1.calls gb A0 c0 l0 j x ts W' (blk_below (g := gb) (o := .cells #[.slice A0 l0.length c0] 22 (0, 0)) BK.out hb') (Kd.C_below (Kd.C_below HR0.out HB.out) hb') HC0.out hj) HA.out).mono ?_); rintro e w7 ⟨gr, rfl, b1, b2, v, c, hS⟩; have SS := Aside0.mk (hS.rebase HB.out); clear hS))
  go_ret
  exact ⟨gr, rfl, b1, b2, v, c, SS.out⟩

/-! ### impl_FewestKeyed: function 24 (told by hand) -/
def impl_FewestKeyed.f (k : Nat) (l0 : List ByteArray) (a1 : ByteArray) (a2 : ByteArray) : Option (Int × Bool) :=
  (impl_keyed.f k l0 [a1, a2]).bind fun t => if t = true then (if a1.size ≤ maxLen ∧ a2.size ≤ maxLen then ((impl_searchKeyed.f k l0 a1).bind fun q => some ((q.2.1 a2).getD 0, (q.2.1 a2).isSome)) else none) else some (0, false)
theorem impl_FewestKeyed.mono : ∀ a0 a1 a2 k, LeO (impl_FewestKeyed.f k a0 a1 a2) (impl_FewestKeyed.f (k + 1) a0 a1 a2) := fun _ _ _ k =>
  LeO.bind (impl_keyed.mono _ _ _) (fun _ => LeO.ite (LeO.ite (LeO.bind (impl_searchKeyed.mono _ _ _) (fun _ => LeO.refl _)) (LeO.refl _)) (LeO.refl _))
set_option maxHeartbeats 8000000 in
set_option maxRecDepth 100000 in
theorem impl_FewestKeyed.calls (k : Nat) (A0 : Option Addr) (c0 : Nat) (l0 : List ByteArray) (a1 : ByteArray) (a2 : ByteArray) (r1 : Int) (r2 : Bool) (w : World) (hr0 : Kd.C Kd.string w A0 l0.length l0) (hc0 : l0.length ≤ c0) (h : impl_FewestKeyed.f k l0 a1 a2 = some (r1, r2)) :
    Calls Tryd.prog 24 #[.slice A0 l0.length c0, .string a1, .string a2] w fun e w' => e = .returned (.tuple #[.int .i64 r1, .bool r2]) ∧ Below w.heap.size w w' := by
  have hu2 := Tryd.underlying55
  have HR0 := Aside0.mk hr0
  have HC0 := Aside0.mk hc0
  clear hr0 hc0
  unfold impl_FewestKeyed.f at h
  obtain ⟨ys, hys⟩ : ∃ y_ : List ByteArray, y_ = ([a1, a2] : List ByteArray) := ⟨_, rfl⟩
  rw [← hys] at h
  have NY := Aside0.mk hys
  clear hys
  obtain ⟨t, G_, h⟩ := Option.bind_eq_some_iff.mp h
  have HG := Aside0.mk G_
  clear G_
  cases t with
  | false =>
    rw [if_neg (by simp)] at h
    simp only [Option.some.injEq, Prod.mk.injEq] at h
    obtain ⟨rfl, rfl⟩ := h
    go_enter Tryd.func24, Tryd.ntmps24
    go_wp2_with (first | ((with_reducible refine gate_dst (N := 13) rfl ?_); refine Kd.R_lit Kd.string _ 9 ?hg (N := 13) ?hd (xs := ([a1, a2] : List ByteArray)) (inner := [.string a1, .string a2]) (ok := fun _ => True) (okp := fun _ => True) ?hr ?hp (fun _ hk => hk) trivial (Below.refl _ _) (Nat.le_refl _) (by simp) ?_; (case hd => rfl); (case hg => rfl); (case hr => first | (go_simp; done) | (go_simp; rfl)); (case hp => exact (Reps.one (show Kd.M Kd.string _ _ _ a1 [.string a1] from rfl) (Reps.one (show Kd.M Kd.string _ _ _ a2 [.string a2] from rfl) (Reps.none _ _)))); intro v8 w8 ho hb hg_ hnew_; clear hg_ hnew_; (first | rw [← NY.out] at ho | (simp only [Int.reduceToNat] at ho; rw [← NY.out] at ho)); have HO := Aside0.mk ho; have HB := Aside0.mk hb; clear hb ho; obtain ⟨Ao, co, eo⟩ := Kd.R_slice HO.out; subst eo) | ((with_reducible refine gate_callee (f := 34) rfl ?_); refine goesL_ (some 14) rfl rfl Tryd.func34 (by kernel_rfl) rfl #[.slice A0 l0.length c0, .slice Ao ys.length co] rfl (by (try simp only [List.map_toArray, List.map_cons, List.map_nil]); first | done | rfl) ?_; (with_reducible refine (impl_keyed.calls k _ _ l0 _ _ ys false _ ?side1 ?side2 ?side5 ?side6 HG.out).mono ?_); (case side1 => exact Kd.C_below HR0.out HB.out); (case side2 => exact HC0.out); (case side5 => exact (Kd.R_reads' HO.out).2.2); (case side6 => exact (Kd.R_reads' HO.out).2.1); rintro e w11 ⟨rfl, hb⟩; refine ⟨_, rfl, ?_⟩; have n2_ := Aside0.mk (below_step HB.out hb); clear HB hb HO; have HB := n2_; clear n2_))
    go_ret2
    exact ⟨rfl, HB.out⟩
  | true =>
    rw [if_pos rfl] at h
    by_cases s1 : a1.size ≤ maxLen ∧ a2.size ≤ maxLen
    · rw [if_pos s1] at h
      have HS := Aside0.mk (show (a1.size ≤ maxLen ∧ a2.size ≤ maxLen) ∧ True from ⟨s1, trivial⟩)
      clear s1
      obtain ⟨q, Q_, h⟩ := Option.bind_eq_some_iff.mp h
      have HQ := Aside0.mk Q_
      clear Q_
      obtain ⟨n, hn⟩ : ∃ n : Int, (q.2.1 a2).getD 0 = n := ⟨_, rfl⟩
      obtain ⟨o, hoo⟩ : ∃ o : Bool, (q.2.1 a2).isSome = o := ⟨_, rfl⟩
      rw [hn, hoo] at h
      have N1 := Aside0.mk hn
      have N2 := Aside0.mk hoo
      clear hn hoo
      simp only [Option.some.injEq, Prod.mk.injEq] at h
      obtain ⟨rfl, rfl⟩ := h
      go_enter Tryd.func24, Tryd.ntmps24
      go_wp2_with (first | ((with_reducible refine gate_dst (N := 13) rfl ?_); refine Kd.R_lit Kd.string _ 9 ?hg (N := 13) ?hd (xs := ([a1, a2] : List ByteArray)) (inner := [.string a1, .string a2]) (ok := fun _ => True) (okp := fun _ => True) ?hr ?hp (fun _ hk => hk) trivial (Below.refl _ _) (Nat.le_refl _) (by simp) ?_; (case hd => rfl); (case hg => rfl); (case hr => first | (go_simp; done) | (go_simp; rfl)); (case hp => exact (Reps.one (show Kd.M Kd.string _ _ _ a1 [.string a1] from rfl) (Reps.one (show Kd.M Kd.string _ _ _ a2 [.string a2] from rfl) (Reps.none _ _)))); intro v8 w8 ho hb hg_ hnew_; clear hg_ hnew_; (first | rw [← NY.out] at ho | (simp only [Int.reduceToNat] at ho; rw [← NY.out] at ho)); have HO := Aside0.mk ho; have HB := Aside0.mk hb; clear hb ho; obtain ⟨Ao, co, eo⟩ := Kd.R_slice HO.out; subst eo) | ((with_reducible refine gate_callee (f := 34) rfl ?_); refine goesL_ (some 14) rfl rfl Tryd.func34 (by kernel_rfl) rfl #[.slice A0 l0.length c0, .slice Ao ys.length co] rfl (by (try simp only [List.map_toArray, List.map_cons, List.map_nil]); first | done | rfl) ?_; (with_reducible refine (impl_keyed.calls k _ _ l0 _ _ ys true _ ?side1 ?side2 ?side5 ?side6 HG.out).mono ?_); (case side1 => exact Kd.C_below HR0.out HB.out); (case side2 => exact HC0.out); (case side5 => exact (Kd.R_reads' HO.out).2.2); (case side6 => exact (Kd.R_reads' HO.out).2.1); rintro e w11 ⟨rfl, hb⟩; refine ⟨_, rfl, ?_⟩; have n2_ := Aside0.mk (below_step HB.out hb); clear HB hb HO; have HB := n2_; clear n2_) | ((with_reducible refine gate_callee (f := 45) rfl ?_); refine goesL_ (some 19) rfl rfl Tryd.func45 (by kernel_rfl) rfl #[.slice A0 l0.length c0, .string a1] rfl (by (try simp only [List.map_toArray, List.map_cons, List.map_nil]); first | done | rfl) ?_; (with_reducible refine (impl_searchKeyed.calls k _ _ l0 a1 q _ ?side1 ?side2 ?side5 HQ.out).mono ?_); (case side1 => exact Kd.C_below HR0.out HB.out); (case side2 => exact HC0.out); (case side5 => exact HS.out.1.1); rintro e w13 ⟨gr, rfl, b1, b2, v, c, hS⟩; refine ⟨_, rfl, ?_⟩; obtain ⟨Av, cv, ev⟩ := Kd.R_slice hS.lst; subst ev; have SS := Aside0.mk (hS.rebase HB.out); clear hS; have hx0 : w13.cell? ⟨gr, 0, none⟩ = some (.slice Av q.1.length cv) := (blk_cell SS.out.blk 0).trans rfl; have hx1 : w13.cell? ⟨gr, 1, none⟩ = some (.map (some b1)) := (blk_cell SS.out.blk 1).trans rfl; have hx2 : w13.cell? ⟨gr, 2, none⟩ = some (.map (some b2)) := (blk_cell SS.out.blk 2).trans rfl) | (at_lookup; refine MapS.look2_v SS.out.far N1.out N2.out HS.out.1.2 rfl _ _ rfl rfl rfl ?_))
      go_ret2
      exact ⟨rfl, SS.out.bel⟩
    · rw [if_neg s1] at h
      cases h

/-! ### laws_FnExactFewestKeyed: function 6 -/
def laws_FnExactFewestKeyed.j0 : Nat → List ByteArray → List ByteArray → Bool → Option (Bool)
  | 0, _, _, _ => none
  | k + 1, x0, x10, x48 => if x48 = true then (some false) else ((laws_toStringS.f k x0).bind fun t295 => ((laws_eqStringS.f k x10 t295).bind fun t298 => (if t298 = true then (some true) else (some false))))
def laws_FnExactFewestKeyed.f (k : Nat) (l0 : List ByteArray) (a1 : ByteArray) (a2 : ByteArray) : Option (Bool) := if (a1.size : Int) > 1048576 then (some true) else (if (a2.size : Int) > 1048576 then (some true) else ((laws_szStringS.f k l0 1048576).bind fun t284 => (if t284 < 0 then (some true) else ((laws_toStringS.f k l0).bind fun t285 => ((spec_FewestKeyed.f k t285 a1 a2).bind fun bt288 => ((laws_toStringS.f k l0).bind fun t290 => ((impl_FewestKeyed.f k t290 a1 a2).bind fun bt293 => (if bt293.1 = bt288.1 then (laws_FnExactFewestKeyed.j0 k l0 t290 (bt293.2 != bt288.2)) else (laws_FnExactFewestKeyed.j0 k l0 t290 true)))))))))
theorem laws_FnExactFewestKeyed.mono_l : ∀ k, (∀ y0 y1 y2, LeO (laws_FnExactFewestKeyed.j0 k y0 y1 y2) (laws_FnExactFewestKeyed.j0 (k + 1) y0 y1 y2))
  | 0 => fun _ _ _ r h => by simp [laws_FnExactFewestKeyed.j0] at h
  | k + 1 => by
    have ih0 := laws_FnExactFewestKeyed.mono_l k
    · intro y0 y1 y2
      unfold laws_FnExactFewestKeyed.j0
      repeat' first
      | (with_reducible exact ih0 _ _ _)
      | (with_reducible exact impl_FewestKeyed.mono _ _ _ _)
      | (with_reducible exact laws_eqStringS.mono _ _ _)
      | (with_reducible exact laws_szStringS.mono _ _ _)
      | (with_reducible exact laws_toStringS.mono _ _)
      | (with_reducible exact spec_FewestKeyed.mono _ _ _ _)
      | (with_reducible exact LeO.refl _)
      | (with_reducible exact LeO.none _)
      | (with_reducible refine LeO.ite ?_ ?_)
      | (with_reducible refine LeO.bind ?_ (fun _ => ?_))
      | exact ih0 _ _ _
      | exact impl_FewestKeyed.mono _ _ _ _
      | exact laws_eqStringS.mono _ _ _
      | exact laws_szStringS.mono _ _ _
      | exact laws_toStringS.mono _ _
      | exact spec_FewestKeyed.mono _ _ _ _
      | exact LeO.none _
      | refine LeO.ite ?_ ?_
      | refine LeO.bind ?_ (fun _ => ?_)
theorem laws_FnExactFewestKeyed.mono : ∀ a0 a1 a2 k, LeO (laws_FnExactFewestKeyed.f k a0 a1 a2) (laws_FnExactFewestKeyed.f (k + 1) a0 a1 a2) := by
  intro a0 a1 a2 k
  have ih0 := laws_FnExactFewestKeyed.mono_l k
  unfold laws_FnExactFewestKeyed.f
  repeat' first
      | (with_reducible exact ih0 _ _ _)
      | (with_reducible exact impl_FewestKeyed.mono _ _ _ _)
      | (with_reducible exact laws_eqStringS.mono _ _ _)
      | (with_reducible exact laws_szStringS.mono _ _ _)
      | (with_reducible exact laws_toStringS.mono _ _)
      | (with_reducible exact spec_FewestKeyed.mono _ _ _ _)
      | (with_reducible exact LeO.refl _)
      | (with_reducible exact LeO.none _)
      | (with_reducible refine LeO.ite ?_ ?_)
      | (with_reducible refine LeO.bind ?_ (fun _ => ?_))
      | exact ih0 _ _ _
      | exact impl_FewestKeyed.mono _ _ _ _
      | exact laws_eqStringS.mono _ _ _
      | exact laws_szStringS.mono _ _ _
      | exact laws_toStringS.mono _ _
      | exact spec_FewestKeyed.mono _ _ _ _
      | exact LeO.none _
      | refine LeO.ite ?_ ?_
      | refine LeO.bind ?_ (fun _ => ?_)
set_option maxHeartbeats 8000000 in
set_option maxRecDepth 100000 in
theorem laws_FnExactFewestKeyed.calls (k : Nat) (A0 : Option Addr) (c0 : Nat) (l0 : List ByteArray) (a1 : ByteArray) (a2 : ByteArray) (r : Bool) (w : World) (hr0 : Kd.C Kd.string w A0 l0.length l0) (hc0 : l0.length ≤ c0) (h : laws_FnExactFewestKeyed.f k l0 a1 a2 = some r) :
    Calls Tryd.prog 6 #[.slice A0 l0.length c0, .string a1, .string a2] w fun e w' => e = .returned (.bool r) ∧ Below w.heap.size w w' := by
  have HR0 := Aside0.mk hr0
  have HC0 := Aside0.mk hc0
  clear hr0 hc0
  have HB := Aside0.mk (Below.refl w.heap.size w)
  have H : (if (a1.size : Int) > 1048576 then (some true) else (if (a2.size : Int) > 1048576 then (some true) else ((laws_szStringS.f k l0 1048576).bind fun t284 => (if t284 < 0 then (some true) else ((laws_toStringS.f k l0).bind fun t285 => ((spec_FewestKeyed.f k t285 a1 a2).bind fun bt288 => ((laws_toStringS.f k l0).bind fun t290 => ((impl_FewestKeyed.f k t290 a1 a2).bind fun bt293 => (if bt293.1 = bt288.1 then (laws_FnExactFewestKeyed.j0 k l0 t290 (bt293.2 != bt288.2)) else (laws_FnExactFewestKeyed.j0 k l0 t290 true)))))))))) = some r := h
  clear h
  by_cases c4 : (a1.size : Int) > 1048576
  · rw [if_pos c4] at H
    have c4b0 : decide (1048576 < (a1.size : Int)) = true := decide_eq_true c4
    have c4b1 : decide (1048576 < a1.size) = true := decide_eq_true (by omega)
    clear c4
    obtain rfl := Option.some.inj H
    go_enter Tryd.func6, Tryd.ntmps6
    go_wp2
    go_ret
    exact ⟨by first | rfl | (simp [errW_none, errW_some] <;> rfl) | (simp [*, errW_none, errW_some] <;> rfl), by repeat (first | (with_reducible first | exact HB.out | apply below_alloc | apply pw_below_drewN | apply below_drew1) | exact HB.out)⟩
  · rw [if_neg c4] at H
    have c4b0 : decide (1048576 < (a1.size : Int)) = false := decide_eq_false c4
    have c4b1 : decide (1048576 < a1.size) = false := decide_eq_false (by omega)
    clear c4
    by_cases c5 : (a2.size : Int) > 1048576
    · rw [if_pos c5] at H
      have c5b0 : decide (1048576 < (a2.size : Int)) = true := decide_eq_true c5
      have c5b1 : decide (1048576 < a2.size) = true := decide_eq_true (by omega)
      clear c5
      obtain rfl := Option.some.inj H
      go_enter Tryd.func6, Tryd.ntmps6
      go_wp2
      go_ret
      exact ⟨by first | rfl | (simp [errW_none, errW_some] <;> rfl) | (simp [*, errW_none, errW_some] <;> rfl), by repeat (first | (with_reducible first | exact HB.out | apply below_alloc | apply pw_below_drewN | apply below_drew1) | exact HB.out)⟩
    · rw [if_neg c5] at H
      have c5b0 : decide (1048576 < (a2.size : Int)) = false := decide_eq_false c5
      have c5b1 : decide (1048576 < a2.size) = false := decide_eq_false (by omega)
      clear c5
      replace H := Option.bind_eq_some_iff.mp H
      obtain ⟨t284, A60, H⟩ := H
      replace H : (if t284 < 0 then (some true) else ((laws_toStringS.f k l0).bind fun t285 => ((spec_FewestKeyed.f k t285 a1 a2).bind fun bt288 => ((laws_toStringS.f k l0).bind fun t290 => ((impl_FewestKeyed.f k t290 a1 a2).bind fun bt293 => (if bt293.1 = bt288.1 then (laws_FnExactFewestKeyed.j0 k l0 t290 (bt293.2 != bt288.2)) else (laws_FnExactFewestKeyed.j0 k l0 t290 true))))))) = some r := H
      have A6 := Aside0.mk A60
      clear A60
      by_cases c7 : t284 < 0
      · rw [if_pos c7] at H
        have c7b0 : decide (t284 < 0) = true := decide_eq_true c7
        clear c7
        obtain rfl := Option.some.inj H
        go_enter Tryd.func6, Tryd.ntmps6
        go_wp2_with (first | ((with_reducible refine gate_callee (f := 10) rfl ?_); refine goesL_ (some 21) rfl rfl Tryd.func10 (by kernel_rfl) rfl #[.slice A0 l0.length c0, .int .i64 1048576] rfl (by (try simp only [List.map_toArray, List.map_cons, List.map_nil]); first | done | rfl | (simp only [List.length_drop, List.length_take]; rfl)) ?_; (with_reducible refine (laws_szStringS.calls k _ _ l0 1048576 t284 _ ?side1 ?side2 A6.out).mono ?_); (case side1 => repeat (first | exact HR0.out | (with_reducible refine Kd.C_alloc ?_ _) | (with_reducible refine Kd.C_drewN ?_ _) | (with_reducible refine Kd.C_drew ?_))); (case side2 => exact HC0.out); rintro e w' ⟨rfl, ⟨nd, rfl⟩⟩; refine ⟨_, rfl, ?_⟩))
        go_ret
        exact ⟨by first | rfl | (simp [errW_none, errW_some] <;> rfl) | (simp [*, errW_none, errW_some] <;> rfl), by repeat (first | (with_reducible first | exact HB.out | apply below_alloc | apply pw_below_drewN | apply below_drew1) | exact HB.out)⟩
      · rw [if_neg c7] at H
        have c7b0 : decide (t284 < 0) = false := decide_eq_false c7
        clear c7
        replace H := Option.bind_eq_some_iff.mp H
        obtain ⟨t285, A80, H⟩ := H
        replace H : ((spec_FewestKeyed.f k t285 a1 a2).bind fun bt288 => ((laws_toStringS.f k l0).bind fun t290 => ((impl_FewestKeyed.f k t290 a1 a2).bind fun bt293 => (if bt293.1 = bt288.1 then (laws_FnExactFewestKeyed.j0 k l0 t290 (bt293.2 != bt288.2)) else (laws_FnExactFewestKeyed.j0 k l0 t290 true))))) = some r := H
        have A8 := Aside0.mk A80
        clear A80
        replace H := Option.bind_eq_some_iff.mp H
        obtain ⟨⟨t288, t289⟩, A90, H⟩ := H
        replace H : ((laws_toStringS.f k l0).bind fun t290 => ((impl_FewestKeyed.f k t290 a1 a2).bind fun bt293 => (if bt293.1 = t288 then (laws_FnExactFewestKeyed.j0 k l0 t290 (bt293.2 != t289)) else (laws_FnExactFewestKeyed.j0 k l0 t290 true)))) = some r := H
        have A9 := Aside0.mk A90
        clear A90
        replace H := Option.bind_eq_some_iff.mp H
        obtain ⟨t290, A100, H⟩ := H
        replace H : ((impl_FewestKeyed.f k t290 a1 a2).bind fun bt293 => (if bt293.1 = t288 then (laws_FnExactFewestKeyed.j0 k l0 t290 (bt293.2 != t289)) else (laws_FnExactFewestKeyed.j0 k l0 t290 true))) = some r := H
        have A10 := Aside0.mk A100
        clear A100
        replace H := Option.bind_eq_some_iff.mp H
        obtain ⟨⟨t293, t294⟩, A110, H⟩ := H
        replace H : (if t293 = t288 then (laws_FnExactFewestKeyed.j0 k l0 t290 (t294 != t289)) else (laws_FnExactFewestKeyed.j0 k l0 t290 true)) = some r := H
        have A11 := Aside0.mk A110
        clear A110
        have HC12 := Aside0.mk H
        clear H
        go_enter Tryd.func6, Tryd.ntmps6
        go_upto_region 12 with (first | ((with_reducible refine gate_callee (f := 10) rfl ?_); refine goesL_ (some 21) rfl rfl Tryd.func10 (by kernel_rfl) rfl #[.slice A0 l0.length c0, .int .i64 1048576] rfl (by (try simp only [List.map_toArray, List.map_cons, List.map_nil]); first | done | rfl | (simp only [List.length_drop, List.length_take]; rfl)) ?_; (with_reducible refine (laws_szStringS.calls k _ _ l0 1048576 t284 _ ?side1 ?side2 A6.out).mono ?_); (case side1 => repeat (first | exact HR0.out | (with_reducible refine Kd.C_alloc ?_ _) | (with_reducible refine Kd.C_drewN ?_ _) | (with_reducible refine Kd.C_drew ?_))); (case side2 => exact HC0.out); rintro e w' ⟨rfl, ⟨nd, rfl⟩⟩; refine ⟨_, rfl, ?_⟩) | ((with_reducible refine gate_callee (f := 12) rfl ?_); refine goesL_ (some 26) rfl rfl Tryd.func12 (by kernel_rfl) rfl #[.slice A0 l0.length c0] rfl (by (try simp only [List.map_toArray, List.map_cons, List.map_nil]); first | done | rfl | (simp only [List.length_drop, List.length_take]; rfl)) ?_; (with_reducible refine (laws_toStringS.calls k _ _ l0 t285 _ ?side1 ?side2 A8.out).mono ?_); (case side1 => repeat (first | exact HR0.out | (with_reducible refine Kd.C_alloc ?_ _) | (with_reducible refine Kd.C_drewN ?_ _) | (with_reducible refine Kd.C_drew ?_))); (case side2 => exact HC0.out); rintro e w13 ⟨v286, rfl, ho0, hb⟩; refine ⟨_, rfl, ?_⟩; have n0_ := Aside0.mk (Kd.R_lower ho0 (below_size (by repeat (first | (with_reducible first | exact HB.out | apply below_alloc | apply pw_below_drewN | apply below_drew1) | exact HB.out)))); have n1_ := Aside0.mk (below_step (by repeat (first | (with_reducible first | exact HB.out | apply below_alloc | apply pw_below_drewN | apply below_drew1) | exact HB.out)) hb); clear HB; have HO287 := n0_; have HB := n1_; clear n0_ n1_; (try clear hb); (try clear hb2); (try clear hk); (try clear hi); (try clear ho0); obtain ⟨Ao14, co14, eo14⟩ := Kd.R_slice HO287.out; subst eo14) | ((with_reducible refine gate_callee (f := 23) rfl ?_); refine goesL_ (some 29) rfl rfl Tryd.func23 (by kernel_rfl) rfl #[.slice Ao14 t285.length co14, .string a1, .string a2] rfl (by (try simp only [List.map_toArray, List.map_cons, List.map_nil]); first | done | rfl | (simp only [List.length_drop, List.length_take]; rfl)) ?_; (with_reducible refine (spec_FewestKeyed.calls k _ _ t285 a1 a2 t288 t289 _ ?side1 ?side2 A9.out).mono ?_); (case side1 => repeat (first | exact (Kd.R_reads' HO287.out).2.2 | (with_reducible refine Kd.C_alloc ?_ _) | (with_reducible refine Kd.C_drewN ?_ _) | (with_reducible refine Kd.C_drew ?_))); (case side2 => exact (Kd.R_reads' HO287.out).2.1); rintro e w15 ⟨rfl, hb⟩; refine ⟨_, rfl, ?_⟩; have n0_ := Aside0.mk (Kd.R_below (by (with_reducible repeat (first | apply Kd.R_alloc | apply Kd.R_drewN | apply Kd.R_drew)); exact HO287.out) hb); have n1_ := Aside0.mk (below_step (by repeat (first | (with_reducible first | exact HB.out | apply below_alloc | apply pw_below_drewN | apply below_drew1) | exact HB.out)) hb); clear HO287; clear HB; have HO287 := n0_; have HB := n1_; clear n0_ n1_; (try clear hb); (try clear hb2); (try clear hk); (try clear hi)) | ((with_reducible refine gate_callee (f := 12) rfl ?_); refine goesL_ (some 33) rfl rfl Tryd.func12 (by kernel_rfl) rfl #[.slice A0 l0.length c0] rfl (by (try simp only [List.map_toArray, List.map_cons, List.map_nil]); first | done | rfl | (simp only [List.length_drop, List.length_take]; rfl)) ?_; (with_reducible refine (laws_toStringS.calls k _ _ l0 t290 _ ?side1 ?side2 A10.out).mono ?_); (case side1 => repeat (first | exact (Kd.C_below HR0.out HB.out) | (with_reducible refine Kd.C_alloc ?_ _) | (with_reducible refine Kd.C_drewN ?_ _) | (with_reducible refine Kd.C_drew ?_))); (case side2 => exact HC0.out); rintro e w16 ⟨v291, rfl, ho0, hb⟩; refine ⟨_, rfl, ?_⟩; have n0_ := Aside0.mk (Kd.R_elder' (by (with_reducible repeat (first | apply Kd.R_alloc | apply Kd.R_drewN | apply Kd.R_drew)); exact HO287.out) (Kd.R_base ho0) hb); have n1_ := Aside0.mk (Kd.R_lower (Kd.R_new' ho0 (Kd.R_lt (by (with_reducible repeat (first | apply Kd.R_alloc | apply Kd.R_drewN | apply Kd.R_drew)); exact HO287.out))) (below_size (by repeat (first | (with_reducible first | exact HB.out | apply below_alloc | apply pw_below_drewN | apply below_drew1) | exact HB.out)))); have n2_ := Aside0.mk (below_step (by repeat (first | (with_reducible first | exact HB.out | apply below_alloc | apply pw_below_drewN | apply below_drew1) | exact HB.out)) hb); clear HO287; clear HB; have HO287 := n0_; have HO292 := n1_; have HB := n2_; clear n0_ n1_ n2_; (try clear hb); (try clear hb2); (try clear hk); (try clear hi); (try clear ho0); obtain ⟨Ao17, co17, eo17⟩ := Kd.R_slice HO292.out; subst eo17) | ((with_reducible refine gate_callee (f := 24) rfl ?_); refine goesL_ (some 38) rfl rfl Tryd.func24 (by kernel_rfl) rfl #[.slice Ao17 t290.length co17, .string a1, .string a2] rfl (by (try simp only [List.map_toArray, List.map_cons, List.map_nil]); first | done | rfl | (simp only [List.length_drop, List.length_take]; rfl)) ?_; (with_reducible refine (impl_FewestKeyed.calls k _ _ t290 a1 a2 t293 t294 _ ?side1 ?side2 A11.out).mono ?_); (case side1 => repeat (first | exact (Kd.R_reads' HO292.out).2.2 | (with_reducible refine Kd.C_alloc ?_ _) | (with_reducible refine Kd.C_drewN ?_ _) | (with_reducible refine Kd.C_drew ?_))); (case side2 => exact (Kd.R_reads' HO292.out).2.1); rintro e w18 ⟨rfl, hb⟩; refine ⟨_, rfl, ?_⟩; have n0_ := Aside0.mk (Kd.R_below (by (with_reducible repeat (first | apply Kd.R_alloc | apply Kd.R_drewN | apply Kd.R_drew)); exact HO287.out) hb); have n1_ := Aside0.mk (Kd.R_below (by (with_reducible repeat (first | apply Kd.R_alloc | apply Kd.R_drewN | apply Kd.R_drew)); exact HO292.out) hb); have n2_ := Aside0.mk (below_step (by repeat (first | (with_reducible first | exact HB.out | apply below_alloc | apply pw_below_drewN | apply below_drew1) | exact HB.out)) hb); clear HO287; clear HO292; clear HB; have HO287 := n0_; have HO292 := n1_; have HB := n2_; clear n0_ n1_ n2_; (try clear hb); (try clear hb2); (try clear hk); (try clear hi)))
        (try simp only [Act.put, List.setIfInBounds_toArray, List.set_cons_zero, List.set_cons_succ])
        go_cut [48] (fun v48 wc => ∃ (kq : Nat) (x48_11 : Bool), v48 = .bool x48_11 ∧ Aside0 (laws_FnExactFewestKeyed.j0 kq l0 t290 x48_11 = some r) ∧ Aside0 (kq ≤ k) ∧ Aside0 (Kd.R Kd.string 9 wc w.heap.size (fun _ => True) (.slice Ao17 t290.length co17) t290) ∧ Aside0 (Below w.heap.size w wc))
        case first =>
          have H := HC12.out
          clear HC12
          by_cases c19 : t293 = t288
          · rw [if_pos c19] at H
            have c19b0 : (t293 == t288) = true := beq_iff_eq.mpr c19
            have c19b1 : (t293 != t288) = false := bne_eq_false_iff_eq.mpr c19
            clear c19
            (first | rw [c19b0] | (simp only [i64_w, i32_w]; rw [c19b0]) | skip)
            have H' := Aside0.mk H
            clear H
            go_wp2
            go_meet
            case rel => exact ⟨_, ((t294 != t289)), (by first | rfl | (simp; done) | (simp [*]; done)), H', ⟨by first | omega | exact Nat.le_refl _⟩, ⟨by (with_reducible repeat (first | apply Kd.R_alloc | apply Kd.R_drewN | apply Kd.R_drew)); exact Kd.R_mono HO292.out (fun _ hk => trivial)⟩, ⟨by repeat (first | (with_reducible first | exact HB.out | apply below_alloc | apply pw_below_drewN | apply below_drew1) | exact HB.out)⟩⟩
          · rw [if_neg c19] at H
            have c19b0 : (t293 == t288) = false := beq_eq_false_iff_ne.mpr c19
            have c19b1 : (t293 != t288) = true := bne_iff_ne.mpr c19
            (first | rw [c19b0] | (simp only [i64_w, i32_w]; rw [c19b0]) | skip)
            have H' := Aside0.mk H
            clear H
            go_wp2
            go_meet
            case rel => exact ⟨_, (true), (by first | rfl | (simp; done) | (simp [*]; done)), H', ⟨by first | omega | exact Nat.le_refl _⟩, ⟨by (with_reducible repeat (first | apply Kd.R_alloc | apply Kd.R_drewN | apply Kd.R_drew)); exact Kd.R_mono HO292.out (fun _ hk => trivial)⟩, ⟨by repeat (first | (with_reducible first | exact HB.out | apply below_alloc | apply pw_below_drewN | apply below_drew1) | exact HB.out)⟩⟩
        case rest =>
          clear HC12
          try clear c1
          try clear c2
          try clear p2
          try clear c4
          try clear c4b0
          try clear c4b1
          try clear c5
          try clear c5b0
          try clear c5b1
          try clear c6
          try clear c7
          try clear c7b0
          try clear c10
          try clear c12
          try clear c19
          try clear c19b0
          try clear c19b1
          obtain ⟨kq, x48_11, rfl, HA, HJ11, HO_10, HB⟩ := hcut
          cases kq with
          | zero => exact absurd HA.out (by simp [laws_FnExactFewestKeyed.j0])
          | succ kj11 =>
            have H := HA.out
            clear HA
            simp only [laws_FnExactFewestKeyed.j0] at H
            by_cases c20 : x48_11 = true
            · subst c20
              have H1 : (some false) = some r := by rw [if_pos rfl] at H; exact H
              clear H
              have H := H1
              clear H1
              obtain rfl := Option.some.inj H
              go_wp2
              go_ret
              exact ⟨by first | rfl | (simp [errW_none, errW_some] <;> rfl) | (simp [*, errW_none, errW_some] <;> rfl), by repeat (first | (with_reducible first | exact HB.out | apply below_alloc | apply pw_below_drewN | apply below_drew1) | exact HB.out)⟩
            · replace c20 := Bool.eq_false_iff.mpr c20
              subst c20
              have H1 : ((laws_toStringS.f kj11 l0).bind fun t295 => ((laws_eqStringS.f kj11 t290 t295).bind fun t298 => (if t298 = true then (some true) else (some false)))) = some r := by rw [if_neg (show ¬ (false = true) by decide)] at H; exact H
              clear H
              have H := H1
              clear H1
              replace H := Option.bind_eq_some_iff.mp H
              obtain ⟨t295, A210, H⟩ := H
              replace H : ((laws_eqStringS.f kj11 t290 t295).bind fun t298 => (if t298 = true then (some true) else (some false))) = some r := H
              have A21 := Aside0.mk A210
              clear A210
              replace H := Option.bind_eq_some_iff.mp H
              obtain ⟨t298, A220, H⟩ := H
              replace H : (if t298 = true then (some true) else (some false)) = some r := H
              have A22 := Aside0.mk A220
              clear A220
              by_cases c23 : t298 = true
              · subst c23
                have H1 : (some true) = some r := by rw [if_pos rfl] at H; exact H
                clear H
                have H := H1
                clear H1
                obtain rfl := Option.some.inj H
                go_wp2_with (first | ((with_reducible refine gate_callee (f := 12) rfl ?_); refine goesL_ (some 51) rfl rfl Tryd.func12 (by kernel_rfl) rfl #[.slice A0 l0.length c0] rfl (by (try simp only [List.map_toArray, List.map_cons, List.map_nil]); first | done | rfl | (simp only [List.length_drop, List.length_take]; rfl)) ?_; (with_reducible refine (laws_toStringS.calls kj11 _ _ l0 t295 _ ?side1 ?side2 A21.out).mono ?_); (case side1 => repeat (first | exact (Kd.C_below HR0.out HB.out) | (with_reducible refine Kd.C_alloc ?_ _) | (with_reducible refine Kd.C_drewN ?_ _) | (with_reducible refine Kd.C_drew ?_))); (case side2 => exact HC0.out); rintro e w24 ⟨v296, rfl, ho0, hb⟩; refine ⟨_, rfl, ?_⟩; have n0_ := Aside0.mk (Kd.R_elder' (by (with_reducible repeat (first | apply Kd.R_alloc | apply Kd.R_drewN | apply Kd.R_drew)); exact HO_10.out) (Kd.R_base ho0) hb); have n1_ := Aside0.mk (Kd.R_lower (Kd.R_new' ho0 (Kd.R_lt (by (with_reducible repeat (first | apply Kd.R_alloc | apply Kd.R_drewN | apply Kd.R_drew)); exact HO_10.out))) (below_size (by repeat (first | (with_reducible first | exact HB.out | apply below_alloc | apply pw_below_drewN | apply below_drew1) | exact HB.out)))); have n2_ := Aside0.mk (below_step (by repeat (first | (with_reducible first | exact HB.out | apply below_alloc | apply pw_below_drewN | apply below_drew1) | exact HB.out)) hb); clear HO_10; clear HB; have HO_10 := n0_; have HO297 := n1_; have HB := n2_; clear n0_ n1_ n2_; (try clear hb); (try clear hb2); (try clear hk); (try clear hi); (try clear ho0); obtain ⟨Ao25, co25, eo25⟩ := Kd.R_slice HO297.out; subst eo25) | ((with_reducible refine gate_callee (f := 14) rfl ?_); refine goesL_ (some 52) rfl rfl Tryd.func14 (by kernel_rfl) rfl #[.slice Ao17 t290.length co17, .slice Ao25 t295.length co25] rfl (by (try simp only [List.map_toArray, List.map_cons, List.map_nil]); first | done | rfl | (simp only [List.length_drop, List.length_take]; rfl)) ?_; (with_reducible refine (laws_eqStringS.calls kj11 _ _ t290 _ _ t295 true _ ?side1 ?side2 ?side3 ?side4 A22.out).mono ?_); (case side1 => repeat (first | exact (Kd.R_reads' HO_10.out).2.2 | (with_reducible refine Kd.C_alloc ?_ _) | (with_reducible refine Kd.C_drewN ?_ _) | (with_reducible refine Kd.C_drew ?_))); (case side2 => exact (Kd.R_reads' HO_10.out).2.1); (case side3 => repeat (first | exact (Kd.R_reads' HO297.out).2.2 | (with_reducible refine Kd.C_alloc ?_ _) | (with_reducible refine Kd.C_drewN ?_ _) | (with_reducible refine Kd.C_drew ?_))); (case side4 => exact (Kd.R_reads' HO297.out).2.1); rintro e w' ⟨rfl, ⟨nd, rfl⟩⟩; refine ⟨_, rfl, ?_⟩))
                go_ret
                exact ⟨by first | rfl | (simp [errW_none, errW_some] <;> rfl) | (simp [*, errW_none, errW_some] <;> rfl), by repeat (first | (with_reducible first | exact HB.out | apply below_alloc | apply pw_below_drewN | apply below_drew1) | exact HB.out)⟩
              · replace c23 := Bool.eq_false_iff.mpr c23
                subst c23
                have H1 : (some false) = some r := by rw [if_neg (show ¬ (false = true) by decide)] at H; exact H
                clear H
                have H := H1
                clear H1
                obtain rfl := Option.some.inj H
                go_wp2_with (first | ((with_reducible refine gate_callee (f := 12) rfl ?_); refine goesL_ (some 51) rfl rfl Tryd.func12 (by kernel_rfl) rfl #[.slice A0 l0.length c0] rfl (by (try simp only [List.map_toArray, List.map_cons, List.map_nil]); first | done | rfl | (simp only [List.length_drop, List.length_take]; rfl)) ?_; (with_reducible refine (laws_toStringS.calls kj11 _ _ l0 t295 _ ?side1 ?side2 A21.out).mono ?_); (case side1 => repeat (first | exact (Kd.C_below HR0.out HB.out) | (with_reducible refine Kd.C_alloc ?_ _) | (with_reducible refine Kd.C_drewN ?_ _) | (with_reducible refine Kd.C_drew ?_))); (case side2 => exact HC0.out); rintro e w26 ⟨v296, rfl, ho0, hb⟩; refine ⟨_, rfl, ?_⟩; have n0_ := Aside0.mk (Kd.R_elder' (by (with_reducible repeat (first | apply Kd.R_alloc | apply Kd.R_drewN | apply Kd.R_drew)); exact HO_10.out) (Kd.R_base ho0) hb); have n1_ := Aside0.mk (Kd.R_lower (Kd.R_new' ho0 (Kd.R_lt (by (with_reducible repeat (first | apply Kd.R_alloc | apply Kd.R_drewN | apply Kd.R_drew)); exact HO_10.out))) (below_size (by repeat (first | (with_reducible first | exact HB.out | apply below_alloc | apply pw_below_drewN | apply below_drew1) | exact HB.out)))); have n2_ := Aside0.mk (below_step (by repeat (first | (with_reducible first | exact HB.out | apply below_alloc | apply pw_below_drewN | apply below_drew1) | exact HB.out)) hb); clear HO_10; clear HB; have HO_10 := n0_; have HO297 := n1_; have HB := n2_; clear n0_ n1_ n2_; (try clear hb); (try clear hb2); (try clear hk); (try clear hi); (try clear ho0); obtain ⟨Ao27, co27, eo27⟩ := Kd.R_slice HO297.out; subst eo27) | ((with_reducible refine gate_callee (f := 14) rfl ?_); refine goesL_ (some 52) rfl rfl Tryd.func14 (by kernel_rfl) rfl #[.slice Ao17 t290.length co17, .slice Ao27 t295.length co27] rfl (by (try simp only [List.map_toArray, List.map_cons, List.map_nil]); first | done | rfl | (simp only [List.length_drop, List.length_take]; rfl)) ?_; (with_reducible refine (laws_eqStringS.calls kj11 _ _ t290 _ _ t295 false _ ?side1 ?side2 ?side3 ?side4 A22.out).mono ?_); (case side1 => repeat (first | exact (Kd.R_reads' HO_10.out).2.2 | (with_reducible refine Kd.C_alloc ?_ _) | (with_reducible refine Kd.C_drewN ?_ _) | (with_reducible refine Kd.C_drew ?_))); (case side2 => exact (Kd.R_reads' HO_10.out).2.1); (case side3 => repeat (first | exact (Kd.R_reads' HO297.out).2.2 | (with_reducible refine Kd.C_alloc ?_ _) | (with_reducible refine Kd.C_drewN ?_ _) | (with_reducible refine Kd.C_drew ?_))); (case side4 => exact (Kd.R_reads' HO297.out).2.1); rintro e w' ⟨rfl, ⟨nd, rfl⟩⟩; refine ⟨_, rfl, ?_⟩))
                go_ret
                exact ⟨by first | rfl | (simp [errW_none, errW_some] <;> rfl) | (simp [*, errW_none, errW_some] <;> rfl), by repeat (first | (with_reducible first | exact HB.out | apply below_alloc | apply pw_below_drewN | apply below_drew1) | exact HB.out)⟩

/-- THE ONE PURE STATEMENT of laws_FnExactFewestKeyed. -/
def laws_FnExactFewestKeyed.Pure : Prop := ∀ (l0 : List ByteArray) (a1 : ByteArray) (a2 : ByteArray), l0.length ≤ maxLen → (∀ x ∈ l0, x.size ≤ maxLen) → a1.size ≤ 140737488351232 → a2.size ≤ 140737488351232 → ∃ k, laws_FnExactFewestKeyed.f k l0 a1 a2 = some true
theorem laws_FnExactFewestKeyed.walk (P : laws_FnExactFewestKeyed.Pure) (A0 : Option Addr) (c0 : Nat) (l0 : List (ByteArray)) (a1 : ByteArray) (a2 : ByteArray) (w : World) (hr0 : Kd.C Kd.string w A0 l0.length l0) (hc0 : l0.length ≤ c0) (w0_ : l0.length ≤ maxLen) (w1_ : (∀ x ∈ l0, x.size ≤ maxLen)) (w2_ : a1.size ≤ 140737488351232) (w3_ : a2.size ≤ 140737488351232) :
    Calls Tryd.prog 6 #[.slice A0 l0.length c0, .string a1, .string a2] w fun e w' => e = .returned (.bool true) ∧ Below w.heap.size w w' := by
  obtain ⟨k, h⟩ := P l0 a1 a2 w0_ w1_ w2_ w3_
  refine (laws_FnExactFewestKeyed.calls k A0 c0 l0 a1 a2 true w hr0 hc0 h).mono ?_
  rintro e w' ⟨rfl, hd⟩
  exact ⟨rfl, hd⟩

end Go.Proofs.YtbgkcbppkhakhaaDoor.PK
