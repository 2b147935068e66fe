-- written by a program of this session's (wip/tools), over the kit's print
import Derived.Test.YtbgkcbppkhakhaaDoorPKx0
import Derived.Test.YtbgkcbppkhakhaaDoorPKx1
import Derived.Test.YtbgkcbppkhakhaaDoorPKx2
import Derived.Test.YtbgkcbppkhakhaaDoorPKx3
import Derived.Test.YtbgkcbppkhakhaaDoorPKx4
import Derived.Test.YtbgkcbppkhakhaaDoorPKx6
import Derived.Test.YtbgkcbppkhakhaaDoorPKx7
import Derived.Test.YtbgkcbppkhakhaaDoorPKx8
import Derived.Test.YtbgkcbppkhakhaaDoorPKx9
namespace Go.Proofs.YtbgkcbppkhakhaaDoor.PK
open Go.RowKit Go.Proofs.YtbgkcbppkhakhaaDoorW.PrintWords Go.Proofs.YtbgkcbppkhakhaaDoorW.PrintLast Go.Proofs.YtbgkcbppkhakhaaDoorW.PrintMore
attribute [local go_sem] max2_int min2_int max_two min_two max_three min_three max_four min_four   -- for this text's walks alone
set_option linter.unusedVariables false
set_option linter.unusedSimpArgs false

/-! ### impl_reached_farthest: function 48 (told by hand) -/
/-- The first one of the states that need the most moves, and how many. -/
def impl_reached_farthest.l0 (x : List ByteArray) (f : ByteArray → Option Int) : Nat → ByteArray → Int → Option (ByteArray × Int)
  | 0, _, _ => none
  | k + 1, b, i => if i < (x.length : Int) then (if 0 ≤ i then (if (rdOf ByteArray.empty x i).size ≤ maxLen ∧ b.size ≤ maxLen then (if (f (rdOf ByteArray.empty x i)).getD 0 > (f b).getD 0 then impl_reached_farthest.l0 x f k (rdOf ByteArray.empty x i) (wrap64 (i + 1)) else (if (f (rdOf ByteArray.empty x i)).getD 0 = (f b).getD 0 then (if Op.bytesLess (rdOf ByteArray.empty x i).toList b.toList = true then impl_reached_farthest.l0 x f k (rdOf ByteArray.empty x i) (wrap64 (i + 1)) else impl_reached_farthest.l0 x f k b (wrap64 (i + 1))) else impl_reached_farthest.l0 x f k b (wrap64 (i + 1)))) else none) else none) else (if b.size ≤ maxLen then some (b, (f b).getD 0) else none)
def impl_reached_farthest.f (k : Nat) (x : List ByteArray) (f : ByteArray → Option Int) : Option (ByteArray × Int) := if (0 : Int) < (x.length : Int) then impl_reached_farthest.l0 x f k (rdOf ByteArray.empty x 0) 0 else none
theorem impl_reached_farthest.mono_l (x : List ByteArray) (f : ByteArray → Option Int) : ∀ k b i, LeO (impl_reached_farthest.l0 x f k b i) (impl_reached_farthest.l0 x f (k + 1) b i)
  | 0, _, _ => fun r h => by simp [impl_reached_farthest.l0] at h
  | k + 1, b, i => by
    have ih := impl_reached_farthest.mono_l x f k
    unfold impl_reached_farthest.l0
    exact LeO.ite (LeO.ite (LeO.ite (LeO.ite (ih _ _) (LeO.ite (LeO.ite (ih _ _) (ih _ _)) (ih _ _))) (LeO.none _)) (LeO.none _)) (LeO.refl _)
theorem impl_reached_farthest.mono (x : List ByteArray) (f : ByteArray → Option Int) (k : Nat) : LeO (impl_reached_farthest.f k x f) (impl_reached_farthest.f (k + 1) x f) := LeO.ite (impl_reached_farthest.mono_l x f k _ _) (LeO.none _)
set_option maxHeartbeats 8000000 in
set_option maxRecDepth 100000 in
theorem impl_reached_farthest.calls (k : Nat) (gb b1 b2 c : Nat) (v : Value) (x : List ByteArray) (f g : ByteArray → Option Int) (r1 : ByteArray) (r2 : Int) (w0 w : World) (hS : impl_searched.St w0 w gb b1 b2 (fun _ => True) v x f g c) (h : impl_reached_farthest.f k x f = some (r1, r2)) :
    Calls Tryd.prog 48 #[.pointer (some ⟨gb, 0, none⟩)] w fun e w' => e = .returned (.tuple #[.string r1, .int .i64 r2]) ∧ Below w.heap.size w w' := by
  have hu2 := Tryd.underlying55
  have SS := Aside0.mk hS
  clear hS
  obtain ⟨A, c2, eo⟩ := Kd.R_slice SS.out.lst
  subst eo
  unfold impl_reached_farthest.f at h
  by_cases c1 : (0 : Int) < (x.length : Int)
  · rw [if_pos c1] at h
    have H' := Aside0.mk h
    clear h
    have c1b : decide ((0 : Int) < (x.length : Int)) = true := decide_eq_true c1
    obtain ⟨ad0, e0, hx0⟩ := Kd.at_string (Kd.R_reads' SS.out.lst).2.2 0 (by decide) c1
    cases e0
    have c1e : (0 < x.length) = True := eq_true (Int.ofNat_lt.1 c1)
    clear c1
    generalize hs0 : rdOf ByteArray.empty x 0 = s0 at hx0 H'
    clear hs0
    replace hx0 : w.cell? ad0 = some (.string s0) := hx0
    have hz0 : w.cell? ⟨gb, 0, none⟩ = some (.slice (some ad0) x.length c2) := (blk_cell SS.out.blk 0).trans rfl
    have HB0 := Aside0.mk (Below.refl w.heap.size w)
    go_enter Tryd.func48, Tryd.ntmps48
    go_wp2
    go_loopg [4, 18] k (fun kq v4 v18 w' => ∃ (b : ByteArray) (i : Int), v4 = .string b ∧ v18 = .int .i64 i ∧ Aside0 (impl_reached_farthest.l0 x f kq b i = some (r1, r2)) ∧ Aside0 (kq ≤ k) ∧ Aside0 (Below w.heap.size w w'))
    case atStart => exact ⟨s0, 0, rfl, rfl, H', ⟨Nat.le_refl _⟩, HB0⟩
    case round =>
      clear H' HB0 hz0 hx0
      obtain ⟨b, i, rfl, rfl, HA, HK1, HB⟩ := hrel
      have SR := Aside0.mk (SS.out.below HB.out)
      cases gk with
      | zero => exact absurd HA.out (by simp [impl_reached_farthest.l0])
      | succ k1 =>
        have H := HA.out
        clear HA
        simp only [impl_reached_farthest.l0] at H
        have hz1 : wr.cell? ⟨gb, 1, none⟩ = some (.map (some b1)) := (blk_cell SR.out.blk 1).trans rfl
        by_cases c5 : i < (x.length : Int)
        · rw [if_pos c5] at H
          have c5b0 : decide (i < (x.length : Int)) = true := decide_eq_true c5
          by_cases c6 : 0 ≤ i
          · rw [if_pos c6] at H
            have c6b0 : decide (0 ≤ i) = true := decide_eq_true c6
            obtain ⟨ad1, e1, hx1⟩ := Kd.at_string (Kd.R_reads' SR.out.lst).2.2 i c6 c5
            cases e1
            have p1 := eq_true c6
            have q1 := eq_true c5
            clear c5 c6
            generalize hs1 : rdOf ByteArray.empty x i = s at hx1 H
            clear hs1
            by_cases c7 : s.size ≤ maxLen ∧ b.size ≤ maxLen
            · rw [if_pos c7] at H
              obtain ⟨n, hn⟩ : ∃ n, (f s).getD 0 = n := ⟨_, rfl⟩
              obtain ⟨m, hm⟩ : ∃ m, (f b).getD 0 = m := ⟨_, rfl⟩
              rw [hn, hm] at H
              have hl1 := MapS.M_look (MapS.M_drew SR.out.far) s c7.1
              have hl2 := MapS.M_look (MapS.M_drew SR.out.far) b c7.2
              rw [hn] at hl1
              rw [hm] at hl2
              clear hn hm c7
              by_cases c8 : n > m
              · rw [if_pos c8] at H
                have c8b : decide (n > m) = true := decide_eq_true c8
                have c8c : decide (m < n) = true := decide_eq_true c8
                clear c8
                have H' := Aside0.mk H
                clear H
                go_wp2
                go_region
                all_goals go_wp2
                all_goals (go_roundg k1; (case measure => have := HK1.out; omega); (case rel => exact ⟨_, _, rfl, rfl, H', ⟨by have := HK1.out; omega⟩, ⟨by first | exact HB.out | exact HB.out.drew | exact below_step HB.out (Below.refl _ _).drew⟩⟩))
              · rw [if_neg c8] at H
                have c8b : decide (n > m) = false := decide_eq_false c8
                have c8c : decide (m < n) = false := decide_eq_false c8
                clear c8
                by_cases c9 : n = m
                · rw [if_pos c9] at H
                  have c9b : (n == m) = true := beq_iff_eq.mpr c9
                  clear c9
                  by_cases c10 : Op.bytesLess s.toList b.toList = true
                  · rw [if_pos c10] at H
                    have H' := Aside0.mk H
                    clear H
                    go_wp2
                    go_region
                    all_goals go_wp2
                    all_goals (go_roundg k1; (case measure => have := HK1.out; omega); (case rel => exact ⟨_, _, rfl, rfl, H', ⟨by have := HK1.out; omega⟩, ⟨by first | exact HB.out | exact HB.out.drew | exact below_step HB.out (Below.refl _ _).drew⟩⟩))
                  · rw [if_neg c10] at H
                    have c10b : Op.bytesLess s.toList b.toList = false := Bool.eq_false_iff.mpr c10
                    clear c10
                    have H' := Aside0.mk H
                    clear H
                    go_wp2
                    go_region
                    all_goals go_wp2
                    all_goals (go_roundg k1; (case measure => have := HK1.out; omega); (case rel => exact ⟨_, _, rfl, rfl, H', ⟨by have := HK1.out; omega⟩, ⟨by first | exact HB.out | exact HB.out.drew | exact below_step HB.out (Below.refl _ _).drew⟩⟩))
                · rw [if_neg c9] at H
                  have c9b : (n == m) = false := beq_eq_false_iff_ne.mpr c9
                  clear c9
                  have H' := Aside0.mk H
                  clear H
                  go_wp2
                  go_region
                  all_goals go_wp2
                  all_goals (go_roundg k1; (case measure => have := HK1.out; omega); (case rel => exact ⟨_, _, rfl, rfl, H', ⟨by have := HK1.out; omega⟩, ⟨by first | exact HB.out | exact HB.out.drew | exact below_step HB.out (Below.refl _ _).drew⟩⟩))
            · rw [if_neg c7] at H
              cases H
          · rw [if_neg c6] at H
            cases H
        · rw [if_neg c5] at H
          have c5b0 : decide (i < (x.length : Int)) = false := decide_eq_false c5
          clear c5
          by_cases c7 : b.size ≤ maxLen
          · rw [if_pos c7] at H
            simp only [Option.some.injEq, Prod.mk.injEq] at H
            obtain ⟨rfl, hn⟩ := H
            have hl2 := MapS.M_look (MapS.M_drew SR.out.far) b c7
            rw [hn] at hl2
            clear hn c7
            go_wp2
            go_region
            all_goals go_wp2
            all_goals go_ret2
            all_goals exact ⟨rfl, by first | exact HB.out | exact HB.out.drew | exact below_step HB.out (Below.refl _ _).drew⟩
          · rw [if_neg c7] at H
            cases H
  · rw [if_neg c1] at h
    cases h

/-! ### impl_FarthestByKeys: function 28 (told by hand) -/
def impl_FarthestByKeys.f (k : Nat) (l0 : List ByteArray) (a1 : ByteArray) : Option (ByteArray × Int × Bool) :=
  (impl_keyed.f k l0 [a1]).bind fun t => if t = true then (if a1.size ≤ maxLen then ((impl_searchKeyed.f k l0 a1).bind fun q => (impl_reached_farthest.f k q.1 q.2.1).bind fun z => some (z.1, z.2, true)) else none) else some (⟨#[]⟩, 0, false)
theorem impl_FarthestByKeys.mono : ∀ a0 a1 k, LeO (impl_FarthestByKeys.f k a0 a1) (impl_FarthestByKeys.f (k + 1) a0 a1) := fun _ _ k =>
  LeO.bind (impl_keyed.mono _ _ _) (fun _ => LeO.ite (LeO.ite (LeO.bind (impl_searchKeyed.mono _ _ _) (fun _ => LeO.bind (impl_reached_farthest.mono _ _ _) (fun _ => LeO.refl _))) (LeO.refl _)) (LeO.refl _))
set_option maxHeartbeats 8000000 in
set_option maxRecDepth 100000 in
theorem impl_FarthestByKeys.calls (k : Nat) (A0 : Option Addr) (c0 : Nat) (l0 : List ByteArray) (a1 : ByteArray) (r1 : ByteArray) (r2 : Int) (r3 : Bool) (w : World) (hr0 : Kd.C Kd.string w A0 l0.length l0) (hc0 : l0.length ≤ c0) (h : impl_FarthestByKeys.f k l0 a1 = some (r1, r2, r3)) :
    Calls Tryd.prog 28 #[.slice A0 l0.length c0, .string a1] w fun e w' => e = .returned (.tuple #[.string r1, .int .i64 r2, .bool r3]) ∧ Below w.heap.size w w' := by
  have hu2 := Tryd.underlying55
  have HR0 := Aside0.mk hr0
  have HC0 := Aside0.mk hc0
  clear hr0 hc0
  unfold impl_FarthestByKeys.f at h
  obtain ⟨ys, hys⟩ : ∃ y_ : List ByteArray, y_ = ([a1] : List ByteArray) := ⟨_, rfl⟩
  rw [← hys] at h
  have NY := Aside0.mk hys
  clear hys
  obtain ⟨t, G_, h⟩ := Option.bind_eq_some_iff.mp h
  have HG := Aside0.mk G_
  clear G_
  cases t with
  | false =>
    rw [if_neg (by simp)] at h
    simp only [Option.some.injEq, Prod.mk.injEq] at h
    obtain ⟨rfl, rfl, rfl⟩ := h
    go_enter Tryd.func28, Tryd.ntmps28
    go_wp2_with (first | ((with_reducible refine gate_dst (N := 11) rfl ?_); refine Kd.R_lit Kd.string _ 9 ?hg (N := 11) ?hd (xs := ([a1] : List ByteArray)) (inner := [.string a1]) (ok := fun _ => True) (okp := fun _ => True) ?hr ?hp (fun _ hk => hk) trivial (Below.refl _ _) (Nat.le_refl _) (by simp) ?_; (case hd => rfl); (case hg => rfl); (case hr => first | (go_simp; done) | (go_simp; rfl)); (case hp => exact (Reps.one (show Kd.M Kd.string _ _ _ a1 [.string a1] from rfl) (Reps.none _ _))); intro v8 w8 ho hb hg_ hnew_; clear hg_ hnew_; (first | rw [← NY.out] at ho | (simp only [Int.reduceToNat] at ho; rw [← NY.out] at ho)); have HO := Aside0.mk ho; have HB := Aside0.mk hb; clear hb ho; obtain ⟨Ao, co, eo⟩ := Kd.R_slice HO.out; subst eo) | ((with_reducible refine gate_callee (f := 34) rfl ?_); refine goesL_ (some 12) rfl rfl Tryd.func34 (by kernel_rfl) rfl #[.slice A0 l0.length c0, .slice Ao ys.length co] rfl (by (try simp only [List.map_toArray, List.map_cons, List.map_nil]); first | done | rfl) ?_; (with_reducible refine (impl_keyed.calls k _ _ l0 _ _ ys false _ ?side1 ?side2 ?side5 ?side6 HG.out).mono ?_); (case side1 => exact Kd.C_below HR0.out HB.out); (case side2 => exact HC0.out); (case side5 => exact (Kd.R_reads' HO.out).2.2); (case side6 => exact (Kd.R_reads' HO.out).2.1); rintro e w11 ⟨rfl, hb⟩; refine ⟨_, rfl, ?_⟩; have n2_ := Aside0.mk (below_step HB.out hb); clear HB hb HO; have HB := n2_; clear n2_))
    go_ret3
    exact ⟨rfl, HB.out⟩
  | true =>
    rw [if_pos rfl] at h
    by_cases s1 : a1.size ≤ maxLen
    · rw [if_pos s1] at h
      have HS := Aside0.mk (show (a1.size ≤ maxLen) ∧ True from ⟨s1, trivial⟩)
      clear s1
      obtain ⟨q, Q_, h⟩ := Option.bind_eq_some_iff.mp h
      have HQ := Aside0.mk Q_
      clear Q_
      obtain ⟨⟨z1, z2⟩, Z_, h⟩ := Option.bind_eq_some_iff.mp h
      have HZ := Aside0.mk Z_
      clear Z_
      simp only [Option.some.injEq, Prod.mk.injEq] at h
      obtain ⟨rfl, rfl, rfl⟩ := h
      go_enter Tryd.func28, Tryd.ntmps28
      go_wp2_with (first | ((with_reducible refine gate_dst (N := 11) rfl ?_); refine Kd.R_lit Kd.string _ 9 ?hg (N := 11) ?hd (xs := ([a1] : List ByteArray)) (inner := [.string a1]) (ok := fun _ => True) (okp := fun _ => True) ?hr ?hp (fun _ hk => hk) trivial (Below.refl _ _) (Nat.le_refl _) (by simp) ?_; (case hd => rfl); (case hg => rfl); (case hr => first | (go_simp; done) | (go_simp; rfl)); (case hp => exact (Reps.one (show Kd.M Kd.string _ _ _ a1 [.string a1] from rfl) (Reps.none _ _))); intro v8 w8 ho hb hg_ hnew_; clear hg_ hnew_; (first | rw [← NY.out] at ho | (simp only [Int.reduceToNat] at ho; rw [← NY.out] at ho)); have HO := Aside0.mk ho; have HB := Aside0.mk hb; clear hb ho; obtain ⟨Ao, co, eo⟩ := Kd.R_slice HO.out; subst eo) | ((with_reducible refine gate_callee (f := 34) rfl ?_); refine goesL_ (some 12) rfl rfl Tryd.func34 (by kernel_rfl) rfl #[.slice A0 l0.length c0, .slice Ao ys.length co] rfl (by (try simp only [List.map_toArray, List.map_cons, List.map_nil]); first | done | rfl) ?_; (with_reducible refine (impl_keyed.calls k _ _ l0 _ _ ys true _ ?side1 ?side2 ?side5 ?side6 HG.out).mono ?_); (case side1 => exact Kd.C_below HR0.out HB.out); (case side2 => exact HC0.out); (case side5 => exact (Kd.R_reads' HO.out).2.2); (case side6 => exact (Kd.R_reads' HO.out).2.1); rintro e w11 ⟨rfl, hb⟩; refine ⟨_, rfl, ?_⟩; have n2_ := Aside0.mk (below_step HB.out hb); clear HB hb HO; have HB := n2_; clear n2_) | ((with_reducible refine gate_callee (f := 45) rfl ?_); refine goesL_ (some 17) rfl rfl Tryd.func45 (by kernel_rfl) rfl #[.slice A0 l0.length c0, .string a1] rfl (by (try simp only [List.map_toArray, List.map_cons, List.map_nil]); first | done | rfl) ?_; (with_reducible refine (impl_searchKeyed.calls k _ _ l0 a1 q _ ?side1 ?side2 ?side5 HQ.out).mono ?_); (case side1 => exact Kd.C_below HR0.out HB.out); (case side2 => exact HC0.out); (case side5 => exact HS.out.1); rintro e w13 ⟨gr, rfl, b1, b2, v, c, hS⟩; refine ⟨_, rfl, ?_⟩; obtain ⟨Av, cv, ev⟩ := Kd.R_slice hS.lst; subst ev; have SS := Aside0.mk (hS.rebase HB.out); clear hS; have hx0 : w13.cell? ⟨gr, 0, none⟩ = some (.slice Av q.1.length cv) := (blk_cell SS.out.blk 0).trans rfl; have hx1 : w13.cell? ⟨gr, 1, none⟩ = some (.map (some b1)) := (blk_cell SS.out.blk 1).trans rfl; have hx2 : w13.cell? ⟨gr, 2, none⟩ = some (.map (some b2)) := (blk_cell SS.out.blk 2).trans rfl) | ((with_reducible refine gate_callee (f := 48) rfl ?_); refine goesL_ (some 18) rfl rfl Tryd.func48 (by kernel_rfl) rfl #[.pointer (some ⟨gr, 0, none⟩)] rfl (by (try simp only [List.map_toArray, List.map_cons, List.map_nil]); first | done | rfl) ?_; (with_reducible refine (impl_reached_farthest.calls k gr b1 b2 c _ q.1 q.2.1 q.2.2 z1 z2 w _ SS.out HZ.out).mono ?_); rintro e w14 ⟨rfl, hb⟩; refine ⟨_, rfl, ?_⟩; have HE := Aside0.mk (below_step SS.out.bel hb); clear hb))
      go_ret3
      exact ⟨rfl, HE.out⟩
    · rw [if_neg s1] at h
      cases h

/-! ### laws_FnExactFarthestByKeys: function 8 -/
def laws_FnExactFarthestByKeys.j0 : Nat → List ByteArray → List ByteArray → Bool → Option (Bool)
  | 0, _, _, _ => none
  | k + 1, x0, x9, x50 => if x50 = true then (some false) else ((laws_toStringS.f k x0).bind fun t345 => ((laws_eqStringS.f k x9 t345).bind fun t348 => (if t348 = true then (some true) else (some false))))
def laws_FnExactFarthestByKeys.f (k : Nat) (l0 : List ByteArray) (a1 : ByteArray) : Option (Bool) := if (a1.size : Int) > 1048576 then (some true) else ((laws_szStringS.f k l0 1048576).bind fun t332 => (if t332 < 0 then (some true) else ((laws_toStringS.f k l0).bind fun t333 => ((spec_FarthestByKeys.f k t333 a1).bind fun bt336 => ((laws_toStringS.f k l0).bind fun t339 => ((impl_FarthestByKeys.f k t339 a1).bind fun bt342 => (if bt342.1.toList = bt336.1.toList then (if bt342.2.1 = bt336.2.1 then (laws_FnExactFarthestByKeys.j0 k l0 t339 (bt342.2.2 != bt336.2.2)) else (laws_FnExactFarthestByKeys.j0 k l0 t339 true)) else (laws_FnExactFarthestByKeys.j0 k l0 t339 true))))))))
theorem laws_FnExactFarthestByKeys.mono_l : ∀ k, (∀ y0 y1 y2, LeO (laws_FnExactFarthestByKeys.j0 k y0 y1 y2) (laws_FnExactFarthestByKeys.j0 (k + 1) y0 y1 y2))
  | 0 => fun _ _ _ r h => by simp [laws_FnExactFarthestByKeys.j0] at h
  | k + 1 => by
    have ih0 := laws_FnExactFarthestByKeys.mono_l k
    · intro y0 y1 y2
      unfold laws_FnExactFarthestByKeys.j0
      repeat' first
      | (with_reducible exact ih0 _ _ _)
      | (with_reducible exact impl_FarthestByKeys.mono _ _ _)
      | (with_reducible exact laws_eqStringS.mono _ _ _)
      | (with_reducible exact laws_szStringS.mono _ _ _)
      | (with_reducible exact laws_toStringS.mono _ _)
      | (with_reducible exact spec_FarthestByKeys.mono _ _ _)
      | (with_reducible exact LeO.refl _)
      | (with_reducible exact LeO.none _)
      | (with_reducible refine LeO.ite ?_ ?_)
      | (with_reducible refine LeO.bind ?_ (fun _ => ?_))
      | exact ih0 _ _ _
      | exact impl_FarthestByKeys.mono _ _ _
      | exact laws_eqStringS.mono _ _ _
      | exact laws_szStringS.mono _ _ _
      | exact laws_toStringS.mono _ _
      | exact spec_FarthestByKeys.mono _ _ _
      | exact LeO.none _
      | refine LeO.ite ?_ ?_
      | refine LeO.bind ?_ (fun _ => ?_)
theorem laws_FnExactFarthestByKeys.mono : ∀ a0 a1 k, LeO (laws_FnExactFarthestByKeys.f k a0 a1) (laws_FnExactFarthestByKeys.f (k + 1) a0 a1) := by
  intro a0 a1 k
  have ih0 := laws_FnExactFarthestByKeys.mono_l k
  unfold laws_FnExactFarthestByKeys.f
  repeat' first
      | (with_reducible exact ih0 _ _ _)
      | (with_reducible exact impl_FarthestByKeys.mono _ _ _)
      | (with_reducible exact laws_eqStringS.mono _ _ _)
      | (with_reducible exact laws_szStringS.mono _ _ _)
      | (with_reducible exact laws_toStringS.mono _ _)
      | (with_reducible exact spec_FarthestByKeys.mono _ _ _)
      | (with_reducible exact LeO.refl _)
      | (with_reducible exact LeO.none _)
      | (with_reducible refine LeO.ite ?_ ?_)
      | (with_reducible refine LeO.bind ?_ (fun _ => ?_))
      | exact ih0 _ _ _
      | exact impl_FarthestByKeys.mono _ _ _
      | exact laws_eqStringS.mono _ _ _
      | exact laws_szStringS.mono _ _ _
      | exact laws_toStringS.mono _ _
      | exact spec_FarthestByKeys.mono _ _ _
      | exact LeO.none _
      | refine LeO.ite ?_ ?_
      | refine LeO.bind ?_ (fun _ => ?_)
set_option maxHeartbeats 8000000 in
set_option maxRecDepth 100000 in
theorem laws_FnExactFarthestByKeys.calls (k : Nat) (A0 : Option Addr) (c0 : Nat) (l0 : List ByteArray) (a1 : ByteArray) (r : Bool) (w : World) (hr0 : Kd.C Kd.string w A0 l0.length l0) (hc0 : l0.length ≤ c0) (h : laws_FnExactFarthestByKeys.f k l0 a1 = some r) :
    Calls Tryd.prog 8 #[.slice A0 l0.length c0, .string a1] w fun e w' => e = .returned (.bool r) ∧ Below w.heap.size w w' := by
  have HR0 := Aside0.mk hr0
  have HC0 := Aside0.mk hc0
  clear hr0 hc0
  have HB := Aside0.mk (Below.refl w.heap.size w)
  have H : (if (a1.size : Int) > 1048576 then (some true) else ((laws_szStringS.f k l0 1048576).bind fun t332 => (if t332 < 0 then (some true) else ((laws_toStringS.f k l0).bind fun t333 => ((spec_FarthestByKeys.f k t333 a1).bind fun bt336 => ((laws_toStringS.f k l0).bind fun t339 => ((impl_FarthestByKeys.f k t339 a1).bind fun bt342 => (if bt342.1.toList = bt336.1.toList then (if bt342.2.1 = bt336.2.1 then (laws_FnExactFarthestByKeys.j0 k l0 t339 (bt342.2.2 != bt336.2.2)) else (laws_FnExactFarthestByKeys.j0 k l0 t339 true)) else (laws_FnExactFarthestByKeys.j0 k l0 t339 true))))))))) = some r := h
  clear h
  by_cases c3 : (a1.size : Int) > 1048576
  · rw [if_pos c3] at H
    have c3b0 : decide (1048576 < (a1.size : Int)) = true := decide_eq_true c3
    have c3b1 : decide (1048576 < a1.size) = true := decide_eq_true (by omega)
    clear c3
    obtain rfl := Option.some.inj H
    go_enter Tryd.func8, Tryd.ntmps8
    go_wp2
    go_ret
    exact ⟨by first | rfl | (simp [errW_none, errW_some] <;> rfl) | (simp [*, errW_none, errW_some] <;> rfl), by repeat (first | (with_reducible first | exact HB.out | apply below_alloc | apply pw_below_drewN | apply below_drew1) | exact HB.out)⟩
  · rw [if_neg c3] at H
    have c3b0 : decide (1048576 < (a1.size : Int)) = false := decide_eq_false c3
    have c3b1 : decide (1048576 < a1.size) = false := decide_eq_false (by omega)
    clear c3
    replace H := Option.bind_eq_some_iff.mp H
    obtain ⟨t332, A40, H⟩ := H
    replace H : (if t332 < 0 then (some true) else ((laws_toStringS.f k l0).bind fun t333 => ((spec_FarthestByKeys.f k t333 a1).bind fun bt336 => ((laws_toStringS.f k l0).bind fun t339 => ((impl_FarthestByKeys.f k t339 a1).bind fun bt342 => (if bt342.1.toList = bt336.1.toList then (if bt342.2.1 = bt336.2.1 then (laws_FnExactFarthestByKeys.j0 k l0 t339 (bt342.2.2 != bt336.2.2)) else (laws_FnExactFarthestByKeys.j0 k l0 t339 true)) else (laws_FnExactFarthestByKeys.j0 k l0 t339 true))))))) = some r := H
    have A4 := Aside0.mk A40
    clear A40
    by_cases c5 : t332 < 0
    · rw [if_pos c5] at H
      have c5b0 : decide (t332 < 0) = true := decide_eq_true c5
      clear c5
      obtain rfl := Option.some.inj H
      go_enter Tryd.func8, Tryd.ntmps8
      go_wp2_with (first | ((with_reducible refine gate_callee (f := 10) rfl ?_); refine goesL_ (some 18) rfl rfl Tryd.func10 (by kernel_rfl) rfl #[.slice A0 l0.length c0, .int .i64 1048576] rfl (by (try simp only [List.map_toArray, List.map_cons, List.map_nil]); first | done | rfl | (simp only [List.length_drop, List.length_take]; rfl)) ?_; (with_reducible refine (laws_szStringS.calls k _ _ l0 1048576 t332 _ ?side1 ?side2 A4.out).mono ?_); (case side1 => repeat (first | exact HR0.out | (with_reducible refine Kd.C_alloc ?_ _) | (with_reducible refine Kd.C_drewN ?_ _) | (with_reducible refine Kd.C_drew ?_))); (case side2 => exact HC0.out); rintro e w' ⟨rfl, ⟨nd, rfl⟩⟩; refine ⟨_, rfl, ?_⟩))
      go_ret
      exact ⟨by first | rfl | (simp [errW_none, errW_some] <;> rfl) | (simp [*, errW_none, errW_some] <;> rfl), by repeat (first | (with_reducible first | exact HB.out | apply below_alloc | apply pw_below_drewN | apply below_drew1) | exact HB.out)⟩
    · rw [if_neg c5] at H
      have c5b0 : decide (t332 < 0) = false := decide_eq_false c5
      clear c5
      replace H := Option.bind_eq_some_iff.mp H
      obtain ⟨t333, A60, H⟩ := H
      replace H : ((spec_FarthestByKeys.f k t333 a1).bind fun bt336 => ((laws_toStringS.f k l0).bind fun t339 => ((impl_FarthestByKeys.f k t339 a1).bind fun bt342 => (if bt342.1.toList = bt336.1.toList then (if bt342.2.1 = bt336.2.1 then (laws_FnExactFarthestByKeys.j0 k l0 t339 (bt342.2.2 != bt336.2.2)) else (laws_FnExactFarthestByKeys.j0 k l0 t339 true)) else (laws_FnExactFarthestByKeys.j0 k l0 t339 true))))) = some r := H
      have A6 := Aside0.mk A60
      clear A60
      replace H := Option.bind_eq_some_iff.mp H
      obtain ⟨⟨t336, t337, t338⟩, A70, H⟩ := H
      replace H : ((laws_toStringS.f k l0).bind fun t339 => ((impl_FarthestByKeys.f k t339 a1).bind fun bt342 => (if bt342.1.toList = t336.toList then (if bt342.2.1 = t337 then (laws_FnExactFarthestByKeys.j0 k l0 t339 (bt342.2.2 != t338)) else (laws_FnExactFarthestByKeys.j0 k l0 t339 true)) else (laws_FnExactFarthestByKeys.j0 k l0 t339 true)))) = some r := H
      have A7 := Aside0.mk A70
      clear A70
      replace H := Option.bind_eq_some_iff.mp H
      obtain ⟨t339, A80, H⟩ := H
      replace H : ((impl_FarthestByKeys.f k t339 a1).bind fun bt342 => (if bt342.1.toList = t336.toList then (if bt342.2.1 = t337 then (laws_FnExactFarthestByKeys.j0 k l0 t339 (bt342.2.2 != t338)) else (laws_FnExactFarthestByKeys.j0 k l0 t339 true)) else (laws_FnExactFarthestByKeys.j0 k l0 t339 true))) = some r := H
      have A8 := Aside0.mk A80
      clear A80
      replace H := Option.bind_eq_some_iff.mp H
      obtain ⟨⟨t342, t343, t344⟩, A90, H⟩ := H
      replace H : (if t342.toList = t336.toList then (if t343 = t337 then (laws_FnExactFarthestByKeys.j0 k l0 t339 (t344 != t338)) else (laws_FnExactFarthestByKeys.j0 k l0 t339 true)) else (laws_FnExactFarthestByKeys.j0 k l0 t339 true)) = some r := H
      have A9 := Aside0.mk A90
      clear A90
      have HC10 := Aside0.mk H
      clear H
      go_enter Tryd.func8, Tryd.ntmps8
      go_upto_region 10 with (first | ((with_reducible refine gate_callee (f := 10) rfl ?_); refine goesL_ (some 18) rfl rfl Tryd.func10 (by kernel_rfl) rfl #[.slice A0 l0.length c0, .int .i64 1048576] rfl (by (try simp only [List.map_toArray, List.map_cons, List.map_nil]); first | done | rfl | (simp only [List.length_drop, List.length_take]; rfl)) ?_; (with_reducible refine (laws_szStringS.calls k _ _ l0 1048576 t332 _ ?side1 ?side2 A4.out).mono ?_); (case side1 => repeat (first | exact HR0.out | (with_reducible refine Kd.C_alloc ?_ _) | (with_reducible refine Kd.C_drewN ?_ _) | (with_reducible refine Kd.C_drew ?_))); (case side2 => exact HC0.out); rintro e w' ⟨rfl, ⟨nd, rfl⟩⟩; refine ⟨_, rfl, ?_⟩) | ((with_reducible refine gate_callee (f := 12) rfl ?_); refine goesL_ (some 23) rfl rfl Tryd.func12 (by kernel_rfl) rfl #[.slice A0 l0.length c0] rfl (by (try simp only [List.map_toArray, List.map_cons, List.map_nil]); first | done | rfl | (simp only [List.length_drop, List.length_take]; rfl)) ?_; (with_reducible refine (laws_toStringS.calls k _ _ l0 t333 _ ?side1 ?side2 A6.out).mono ?_); (case side1 => repeat (first | exact HR0.out | (with_reducible refine Kd.C_alloc ?_ _) | (with_reducible refine Kd.C_drewN ?_ _) | (with_reducible refine Kd.C_drew ?_))); (case side2 => exact HC0.out); rintro e w11 ⟨v334, rfl, ho0, hb⟩; refine ⟨_, rfl, ?_⟩; have n0_ := Aside0.mk (Kd.R_lower ho0 (below_size (by repeat (first | (with_reducible first | exact HB.out | apply below_alloc | apply pw_below_drewN | apply below_drew1) | exact HB.out)))); have n1_ := Aside0.mk (below_step (by repeat (first | (with_reducible first | exact HB.out | apply below_alloc | apply pw_below_drewN | apply below_drew1) | exact HB.out)) hb); clear HB; have HO335 := n0_; have HB := n1_; clear n0_ n1_; (try clear hb); (try clear hb2); (try clear hk); (try clear hi); (try clear ho0); obtain ⟨Ao12, co12, eo12⟩ := Kd.R_slice HO335.out; subst eo12) | ((with_reducible refine gate_callee (f := 27) rfl ?_); refine goesL_ (some 25) rfl rfl Tryd.func27 (by kernel_rfl) rfl #[.slice Ao12 t333.length co12, .string a1] rfl (by (try simp only [List.map_toArray, List.map_cons, List.map_nil]); first | done | rfl | (simp only [List.length_drop, List.length_take]; rfl)) ?_; (with_reducible refine (spec_FarthestByKeys.calls k _ _ t333 a1 t336 t337 t338 _ ?side1 ?side2 A7.out).mono ?_); (case side1 => repeat (first | exact (Kd.R_reads' HO335.out).2.2 | (with_reducible refine Kd.C_alloc ?_ _) | (with_reducible refine Kd.C_drewN ?_ _) | (with_reducible refine Kd.C_drew ?_))); (case side2 => exact (Kd.R_reads' HO335.out).2.1); rintro e w13 ⟨rfl, hb⟩; refine ⟨_, rfl, ?_⟩; have n0_ := Aside0.mk (Kd.R_below (by (with_reducible repeat (first | apply Kd.R_alloc | apply Kd.R_drewN | apply Kd.R_drew)); exact HO335.out) hb); have n1_ := Aside0.mk (below_step (by repeat (first | (with_reducible first | exact HB.out | apply below_alloc | apply pw_below_drewN | apply below_drew1) | exact HB.out)) hb); clear HO335; clear HB; have HO335 := n0_; have HB := n1_; clear n0_ n1_; (try clear hb); (try clear hb2); (try clear hk); (try clear hi)) | ((with_reducible refine gate_callee (f := 12) rfl ?_); refine goesL_ (some 30) rfl rfl Tryd.func12 (by kernel_rfl) rfl #[.slice A0 l0.length c0] rfl (by (try simp only [List.map_toArray, List.map_cons, List.map_nil]); first | done | rfl | (simp only [List.length_drop, List.length_take]; rfl)) ?_; (with_reducible refine (laws_toStringS.calls k _ _ l0 t339 _ ?side1 ?side2 A8.out).mono ?_); (case side1 => repeat (first | exact (Kd.C_below HR0.out HB.out) | (with_reducible refine Kd.C_alloc ?_ _) | (with_reducible refine Kd.C_drewN ?_ _) | (with_reducible refine Kd.C_drew ?_))); (case side2 => exact HC0.out); rintro e w14 ⟨v340, rfl, ho0, hb⟩; refine ⟨_, rfl, ?_⟩; have n0_ := Aside0.mk (Kd.R_elder' (by (with_reducible repeat (first | apply Kd.R_alloc | apply Kd.R_drewN | apply Kd.R_drew)); exact HO335.out) (Kd.R_base ho0) hb); have n1_ := Aside0.mk (Kd.R_lower (Kd.R_new' ho0 (Kd.R_lt (by (with_reducible repeat (first | apply Kd.R_alloc | apply Kd.R_drewN | apply Kd.R_drew)); exact HO335.out))) (below_size (by repeat (first | (with_reducible first | exact HB.out | apply below_alloc | apply pw_below_drewN | apply below_drew1) | exact HB.out)))); have n2_ := Aside0.mk (below_step (by repeat (first | (with_reducible first | exact HB.out | apply below_alloc | apply pw_below_drewN | apply below_drew1) | exact HB.out)) hb); clear HO335; clear HB; have HO335 := n0_; have HO341 := n1_; have HB := n2_; clear n0_ n1_ n2_; (try clear hb); (try clear hb2); (try clear hk); (try clear hi); (try clear ho0); obtain ⟨Ao15, co15, eo15⟩ := Kd.R_slice HO341.out; subst eo15) | ((with_reducible refine gate_callee (f := 28) rfl ?_); refine goesL_ (some 34) rfl rfl Tryd.func28 (by kernel_rfl) rfl #[.slice Ao15 t339.length co15, .string a1] rfl (by (try simp only [List.map_toArray, List.map_cons, List.map_nil]); first | done | rfl | (simp only [List.length_drop, List.length_take]; rfl)) ?_; (with_reducible refine (impl_FarthestByKeys.calls k _ _ t339 a1 t342 t343 t344 _ ?side1 ?side2 A9.out).mono ?_); (case side1 => repeat (first | exact (Kd.R_reads' HO341.out).2.2 | (with_reducible refine Kd.C_alloc ?_ _) | (with_reducible refine Kd.C_drewN ?_ _) | (with_reducible refine Kd.C_drew ?_))); (case side2 => exact (Kd.R_reads' HO341.out).2.1); rintro e w16 ⟨rfl, hb⟩; refine ⟨_, rfl, ?_⟩; have n0_ := Aside0.mk (Kd.R_below (by (with_reducible repeat (first | apply Kd.R_alloc | apply Kd.R_drewN | apply Kd.R_drew)); exact HO335.out) hb); have n1_ := Aside0.mk (Kd.R_below (by (with_reducible repeat (first | apply Kd.R_alloc | apply Kd.R_drewN | apply Kd.R_drew)); exact HO341.out) hb); have n2_ := Aside0.mk (below_step (by repeat (first | (with_reducible first | exact HB.out | apply below_alloc | apply pw_below_drewN | apply below_drew1) | exact HB.out)) hb); clear HO335; clear HO341; clear HB; have HO335 := n0_; have HO341 := n1_; have HB := n2_; clear n0_ n1_ n2_; (try clear hb); (try clear hb2); (try clear hk); (try clear hi)))
      (try simp only [Act.put, List.setIfInBounds_toArray, List.set_cons_zero, List.set_cons_succ])
      go_cut [50] (fun v50 wc => ∃ (kq : Nat) (x50_9 : Bool), v50 = .bool x50_9 ∧ Aside0 (laws_FnExactFarthestByKeys.j0 kq l0 t339 x50_9 = some r) ∧ Aside0 (kq ≤ k) ∧ Aside0 (Kd.R Kd.string 9 wc w.heap.size (fun _ => True) (.slice Ao15 t339.length co15) t339) ∧ Aside0 (Below w.heap.size w wc))
      case first =>
        have H := HC10.out
        clear HC10
        by_cases c17 : t342.toList = t336.toList
        · rw [if_pos c17] at H
          have c17b0 : (t342.toList == t336.toList) = true := beq_iff_eq.mpr c17
          have c17b1 : (t342.toList != t336.toList) = false := bne_eq_false_iff_eq.mpr c17
          clear c17
          (first | rw [c17b0] | (simp only [i64_w, i32_w]; rw [c17b0]) | skip)
          by_cases c18 : t343 = t337
          · rw [if_pos c18] at H
            have c18b0 : (t343 == t337) = true := beq_iff_eq.mpr c18
            have c18b1 : (t343 != t337) = false := bne_eq_false_iff_eq.mpr c18
            clear c18
            have H' := Aside0.mk H
            clear H
            go_wp2
            go_meet
            case rel => exact ⟨_, ((t344 != t338)), (by first | rfl | (simp; done) | (simp [*]; done)), H', ⟨by first | omega | exact Nat.le_refl _⟩, ⟨by (with_reducible repeat (first | apply Kd.R_alloc | apply Kd.R_drewN | apply Kd.R_drew)); exact Kd.R_mono HO341.out (fun _ hk => trivial)⟩, ⟨by repeat (first | (with_reducible first | exact HB.out | apply below_alloc | apply pw_below_drewN | apply below_drew1) | exact HB.out)⟩⟩
          · rw [if_neg c18] at H
            have c18b0 : (t343 == t337) = false := beq_eq_false_iff_ne.mpr c18
            have c18b1 : (t343 != t337) = true := bne_iff_ne.mpr c18
            have H' := Aside0.mk H
            clear H
            go_wp2
            go_meet
            case rel => exact ⟨_, (true), (by first | rfl | (simp; done) | (simp [*]; done)), H', ⟨by first | omega | exact Nat.le_refl _⟩, ⟨by (with_reducible repeat (first | apply Kd.R_alloc | apply Kd.R_drewN | apply Kd.R_drew)); exact Kd.R_mono HO341.out (fun _ hk => trivial)⟩, ⟨by repeat (first | (with_reducible first | exact HB.out | apply below_alloc | apply pw_below_drewN | apply below_drew1) | exact HB.out)⟩⟩
        · rw [if_neg c17] at H
          have c17b0 : (t342.toList == t336.toList) = false := beq_eq_false_iff_ne.mpr c17
          have c17b1 : (t342.toList != t336.toList) = true := bne_iff_ne.mpr c17
          (first | rw [c17b0] | (simp only [i64_w, i32_w]; rw [c17b0]) | skip)
          have H' := Aside0.mk H
          clear H
          go_wp2
          go_meet
          case rel => exact ⟨_, (true), (by first | rfl | (simp; done) | (simp [*]; done)), H', ⟨by first | omega | exact Nat.le_refl _⟩, ⟨by (with_reducible repeat (first | apply Kd.R_alloc | apply Kd.R_drewN | apply Kd.R_drew)); exact Kd.R_mono HO341.out (fun _ hk => trivial)⟩, ⟨by repeat (first | (with_reducible first | exact HB.out | apply below_alloc | apply pw_below_drewN | apply below_drew1) | exact HB.out)⟩⟩
      case rest =>
        clear HC10
        try clear c1
        try clear c2
        try clear p2
        try clear c3
        try clear c3b0
        try clear c3b1
        try clear c5
        try clear c5b0
        try clear c8
        try clear c10
        try clear c12
        try clear c17
        try clear c17b0
        try clear c17b1
        try clear c18
        try clear c18b0
        try clear c18b1
        obtain ⟨kq, x50_9, rfl, HA, HJ9, HO_9, HB⟩ := hcut
        cases kq with
        | zero => exact absurd HA.out (by simp [laws_FnExactFarthestByKeys.j0])
        | succ kj9 =>
          have H := HA.out
          clear HA
          simp only [laws_FnExactFarthestByKeys.j0] at H
          by_cases c19 : x50_9 = true
          · subst c19
            have H1 : (some false) = some r := by rw [if_pos rfl] at H; exact H
            clear H
            have H := H1
            clear H1
            obtain rfl := Option.some.inj H
            go_wp2
            go_ret
            exact ⟨by first | rfl | (simp [errW_none, errW_some] <;> rfl) | (simp [*, errW_none, errW_some] <;> rfl), by repeat (first | (with_reducible first | exact HB.out | apply below_alloc | apply pw_below_drewN | apply below_drew1) | exact HB.out)⟩
          · replace c19 := Bool.eq_false_iff.mpr c19
            subst c19
            have H1 : ((laws_toStringS.f kj9 l0).bind fun t345 => ((laws_eqStringS.f kj9 t339 t345).bind fun t348 => (if t348 = true then (some true) else (some false)))) = some r := by rw [if_neg (show ¬ (false = true) by decide)] at H; exact H
            clear H
            have H := H1
            clear H1
            replace H := Option.bind_eq_some_iff.mp H
            obtain ⟨t345, A200, H⟩ := H
            replace H : ((laws_eqStringS.f kj9 t339 t345).bind fun t348 => (if t348 = true then (some true) else (some false))) = some r := H
            have A20 := Aside0.mk A200
            clear A200
            replace H := Option.bind_eq_some_iff.mp H
            obtain ⟨t348, A210, H⟩ := H
            replace H : (if t348 = true then (some true) else (some false)) = some r := H
            have A21 := Aside0.mk A210
            clear A210
            by_cases c22 : t348 = true
            · subst c22
              have H1 : (some true) = some r := by rw [if_pos rfl] at H; exact H
              clear H
              have H := H1
              clear H1
              obtain rfl := Option.some.inj H
              go_wp2_with (first | ((with_reducible refine gate_callee (f := 12) rfl ?_); refine goesL_ (some 53) rfl rfl Tryd.func12 (by kernel_rfl) rfl #[.slice A0 l0.length c0] rfl (by (try simp only [List.map_toArray, List.map_cons, List.map_nil]); first | done | rfl | (simp only [List.length_drop, List.length_take]; rfl)) ?_; (with_reducible refine (laws_toStringS.calls kj9 _ _ l0 t345 _ ?side1 ?side2 A20.out).mono ?_); (case side1 => repeat (first | exact (Kd.C_below HR0.out HB.out) | (with_reducible refine Kd.C_alloc ?_ _) | (with_reducible refine Kd.C_drewN ?_ _) | (with_reducible refine Kd.C_drew ?_))); (case side2 => exact HC0.out); rintro e w23 ⟨v346, rfl, ho0, hb⟩; refine ⟨_, rfl, ?_⟩; have n0_ := Aside0.mk (Kd.R_elder' (by (with_reducible repeat (first | apply Kd.R_alloc | apply Kd.R_drewN | apply Kd.R_drew)); exact HO_9.out) (Kd.R_base ho0) hb); have n1_ := Aside0.mk (Kd.R_lower (Kd.R_new' ho0 (Kd.R_lt (by (with_reducible repeat (first | apply Kd.R_alloc | apply Kd.R_drewN | apply Kd.R_drew)); exact HO_9.out))) (below_size (by repeat (first | (with_reducible first | exact HB.out | apply below_alloc | apply pw_below_drewN | apply below_drew1) | exact HB.out)))); have n2_ := Aside0.mk (below_step (by repeat (first | (with_reducible first | exact HB.out | apply below_alloc | apply pw_below_drewN | apply below_drew1) | exact HB.out)) hb); clear HO_9; clear HB; have HO_9 := n0_; have HO347 := n1_; have HB := n2_; clear n0_ n1_ n2_; (try clear hb); (try clear hb2); (try clear hk); (try clear hi); (try clear ho0); obtain ⟨Ao24, co24, eo24⟩ := Kd.R_slice HO347.out; subst eo24) | ((with_reducible refine gate_callee (f := 14) rfl ?_); refine goesL_ (some 54) rfl rfl Tryd.func14 (by kernel_rfl) rfl #[.slice Ao15 t339.length co15, .slice Ao24 t345.length co24] rfl (by (try simp only [List.map_toArray, List.map_cons, List.map_nil]); first | done | rfl | (simp only [List.length_drop, List.length_take]; rfl)) ?_; (with_reducible refine (laws_eqStringS.calls kj9 _ _ t339 _ _ t345 true _ ?side1 ?side2 ?side3 ?side4 A21.out).mono ?_); (case side1 => repeat (first | exact (Kd.R_reads' HO_9.out).2.2 | (with_reducible refine Kd.C_alloc ?_ _) | (with_reducible refine Kd.C_drewN ?_ _) | (with_reducible refine Kd.C_drew ?_))); (case side2 => exact (Kd.R_reads' HO_9.out).2.1); (case side3 => repeat (first | exact (Kd.R_reads' HO347.out).2.2 | (with_reducible refine Kd.C_alloc ?_ _) | (with_reducible refine Kd.C_drewN ?_ _) | (with_reducible refine Kd.C_drew ?_))); (case side4 => exact (Kd.R_reads' HO347.out).2.1); rintro e w' ⟨rfl, ⟨nd, rfl⟩⟩; refine ⟨_, rfl, ?_⟩))
              go_ret
              exact ⟨by first | rfl | (simp [errW_none, errW_some] <;> rfl) | (simp [*, errW_none, errW_some] <;> rfl), by repeat (first | (with_reducible first | exact HB.out | apply below_alloc | apply pw_below_drewN | apply below_drew1) | exact HB.out)⟩
            · replace c22 := Bool.eq_false_iff.mpr c22
              subst c22
              have H1 : (some false) = some r := by rw [if_neg (show ¬ (false = true) by decide)] at H; exact H
              clear H
              have H := H1
              clear H1
              obtain rfl := Option.some.inj H
              go_wp2_with (first | ((with_reducible refine gate_callee (f := 12) rfl ?_); refine goesL_ (some 53) rfl rfl Tryd.func12 (by kernel_rfl) rfl #[.slice A0 l0.length c0] rfl (by (try simp only [List.map_toArray, List.map_cons, List.map_nil]); first | done | rfl | (simp only [List.length_drop, List.length_take]; rfl)) ?_; (with_reducible refine (laws_toStringS.calls kj9 _ _ l0 t345 _ ?side1 ?side2 A20.out).mono ?_); (case side1 => repeat (first | exact (Kd.C_below HR0.out HB.out) | (with_reducible refine Kd.C_alloc ?_ _) | (with_reducible refine Kd.C_drewN ?_ _) | (with_reducible refine Kd.C_drew ?_))); (case side2 => exact HC0.out); rintro e w25 ⟨v346, rfl, ho0, hb⟩; refine ⟨_, rfl, ?_⟩; have n0_ := Aside0.mk (Kd.R_elder' (by (with_reducible repeat (first | apply Kd.R_alloc | apply Kd.R_drewN | apply Kd.R_drew)); exact HO_9.out) (Kd.R_base ho0) hb); have n1_ := Aside0.mk (Kd.R_lower (Kd.R_new' ho0 (Kd.R_lt (by (with_reducible repeat (first | apply Kd.R_alloc | apply Kd.R_drewN | apply Kd.R_drew)); exact HO_9.out))) (below_size (by repeat (first | (with_reducible first | exact HB.out | apply below_alloc | apply pw_below_drewN | apply below_drew1) | exact HB.out)))); have n2_ := Aside0.mk (below_step (by repeat (first | (with_reducible first | exact HB.out | apply below_alloc | apply pw_below_drewN | apply below_drew1) | exact HB.out)) hb); clear HO_9; clear HB; have HO_9 := n0_; have HO347 := n1_; have HB := n2_; clear n0_ n1_ n2_; (try clear hb); (try clear hb2); (try clear hk); (try clear hi); (try clear ho0); obtain ⟨Ao26, co26, eo26⟩ := Kd.R_slice HO347.out; subst eo26) | ((with_reducible refine gate_callee (f := 14) rfl ?_); refine goesL_ (some 54) rfl rfl Tryd.func14 (by kernel_rfl) rfl #[.slice Ao15 t339.length co15, .slice Ao26 t345.length co26] rfl (by (try simp only [List.map_toArray, List.map_cons, List.map_nil]); first | done | rfl | (simp only [List.length_drop, List.length_take]; rfl)) ?_; (with_reducible refine (laws_eqStringS.calls kj9 _ _ t339 _ _ t345 false _ ?side1 ?side2 ?side3 ?side4 A21.out).mono ?_); (case side1 => repeat (first | exact (Kd.R_reads' HO_9.out).2.2 | (with_reducible refine Kd.C_alloc ?_ _) | (with_reducible refine Kd.C_drewN ?_ _) | (with_reducible refine Kd.C_drew ?_))); (case side2 => exact (Kd.R_reads' HO_9.out).2.1); (case side3 => repeat (first | exact (Kd.R_reads' HO347.out).2.2 | (with_reducible refine Kd.C_alloc ?_ _) | (with_reducible refine Kd.C_drewN ?_ _) | (with_reducible refine Kd.C_drew ?_))); (case side4 => exact (Kd.R_reads' HO347.out).2.1); rintro e w' ⟨rfl, ⟨nd, rfl⟩⟩; refine ⟨_, rfl, ?_⟩))
              go_ret
              exact ⟨by first | rfl | (simp [errW_none, errW_some] <;> rfl) | (simp [*, errW_none, errW_some] <;> rfl), by repeat (first | (with_reducible first | exact HB.out | apply below_alloc | apply pw_below_drewN | apply below_drew1) | exact HB.out)⟩

/-- THE ONE PURE STATEMENT of laws_FnExactFarthestByKeys. -/
def laws_FnExactFarthestByKeys.Pure : Prop := ∀ (l0 : List ByteArray) (a1 : ByteArray), l0.length ≤ maxLen → (∀ x ∈ l0, x.size ≤ maxLen) → a1.size ≤ 140737488351232 → ∃ k, laws_FnExactFarthestByKeys.f k l0 a1 = some true
theorem laws_FnExactFarthestByKeys.walk (P : laws_FnExactFarthestByKeys.Pure) (A0 : Option Addr) (c0 : Nat) (l0 : List (ByteArray)) (a1 : ByteArray) (w : World) (hr0 : Kd.C Kd.string w A0 l0.length l0) (hc0 : l0.length ≤ c0) (w0_ : l0.length ≤ maxLen) (w1_ : (∀ x ∈ l0, x.size ≤ maxLen)) (w2_ : a1.size ≤ 140737488351232) :
    Calls Tryd.prog 8 #[.slice A0 l0.length c0, .string a1] w fun e w' => e = .returned (.bool true) ∧ Below w.heap.size w w' := by
  obtain ⟨k, h⟩ := P l0 a1 w0_ w1_ w2_
  refine (laws_FnExactFarthestByKeys.calls k A0 c0 l0 a1 true w hr0 hc0 h).mono ?_
  rintro e w' ⟨rfl, hd⟩
  exact ⟨rfl, hd⟩

end Go.Proofs.YtbgkcbppkhakhaaDoor.PK
