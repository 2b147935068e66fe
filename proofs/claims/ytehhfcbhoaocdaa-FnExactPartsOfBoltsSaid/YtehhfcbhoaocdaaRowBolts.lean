/-
  What a law's bolts read as.
-/
import Derived.Test.YtehhfcbhoaocdaaPPx0
import Derived.Test.YtehhfcbhoaocdaaRowMore
namespace Go.Proofs.Ytehhfcbhoaocdaa.RowMore
set_option linter.unusedVariables false
set_option linter.unusedSimpArgs false
open Go Go.ChangeShapes Go.WideShapes Go.ChangeAt Go.RowKit Go.Proofs.YtehhfcbhoaocdaaW.PrintWords Go.Deep Go.Proofs.Ytehhfcbhoaocdaa.PP
variable {H : Type} {enc : TypeId × Value → H} {P : Program} {w : World} {base : Nat} {spare : Nat → Bool} {held : Bool}

theorem blocks_of {t e : TypeId} {f0 f1 f2 f3 : Field} {fuel : Nat} {cs : List Value} {x : DataW H × List MemPlace} (ht : P.underlying t = some (.slice e)) (he : P.underlying e = some (.struct #[f0, f1, f2, f3])) (ce : P.cellsOf e = 4)
    (o0 : f0.offset = 0) (o1 : f1.offset = 1) (o2 : f2.offset = 2) (o3 : f3.offset = 3) (c0 : P.cellsOf f0.type = 1) (c1 : P.cellsOf f1.type = 1) (c2 : P.cellsOf f2.type = 1) (c3 : P.cellsOf f3.type = 1)
    (u0 : P.underlying f0.type = some (.int .i64)) (u1 : P.underlying f1.type = some (.int .i64)) (u2 : P.underlying f2.type = some (.int .i64)) (u3 : P.underlying f3.type = some (.int .i64))
    (h : DataW.trod enc P w base spare held fuel t cs = some x) :
    ∃ (A : Option Addr) (c : Nat) (l : List S82), cs = [.slice A l.length c] ∧ Kd.C k82 w A l.length l ∧ l.length ≤ c ∧ l.length ≤ maxLen := by
  rcases open_slice ht h with ⟨rfl, _⟩ | ⟨a, len, cap, m, n, D, Pl, rfl, hb, hl, hm, hmm, rfl, hx⟩
  · exact ⟨none, 0, [], rfl, ⟨rfl, Nat.zero_le _, fun h => absurd h (Nat.lt_irrefl 0)⟩, Nat.le_refl _, Nat.zero_le _⟩
  · have hlm : len ≤ m := by rw [hmm]; split <;> omega
    obtain ⟨l, hll, hq⟩ := list_of (fun i (s : S82) => w.cell? (a.add (i * 4)) = some (.int .i64 s.f0) ∧ w.cell? (a.add (i * 4 + 1)) = some (.int .i64 s.f1) ∧ w.cell? (a.add (i * 4 + 2)) = some (.int .i64 s.f2) ∧ w.cell? (a.add (i * 4 + 3)) = some (.int .i64 s.f3)) len (fun i hi => by
      obtain ⟨cs', h1, h2⟩ := hx i (by omega)
      rw [ce] at h1
      obtain ⟨_, hlen, hcell⟩ := World.cells?_some h1
      obtain ⟨xs, k, hk, hxy, _, hxl, hf⟩ := DataW.trod_struct he h2
      match xs, hxl, cs', hlen with
      | [y0, y1, y2, y3], _, [v0, v1, v2, v3], _ =>
        have g0 := hf 0 f0 rfl
        have g1 := hf 1 f1 rfl
        have g2 := hf 2 f2 rfl
        have g3 := hf 3 f3 rfl
        simp [o0, o1, o2, o3, c0, c1, c2, c3] at g0 g1 g2 g3
        have e0 := hcell 0 (by omega)
        have e1 := hcell 1 (by omega)
        have e2 := hcell 2 (by omega)
        have e3 := hcell 3 (by omega)
        rw [Deep.add_add] at e0 e1 e2 e3
        obtain ⟨n0, q0, _, _⟩ := DataW.trod_int u0 g0
        obtain ⟨n1, q1, _, _⟩ := DataW.trod_int u1 g1
        obtain ⟨n2, q2, _, _⟩ := DataW.trod_int u2 g2
        obtain ⟨n3, q3, _, _⟩ := DataW.trod_int u3 g3
        simp at q0 q1 q2 q3
        subst q0 q1 q2 q3
        exact ⟨⟨n0, n1, n2, n3⟩, by simpa using e0, by simpa using e1, by simpa using e2, by simpa using e3⟩)
    refine ⟨some a, cap, l, by rw [hll], ⟨rfl, by rw [hll]; exact Nat.le_trans hl hm, fun _ => ⟨a, rfl, fun j s hj => ?_⟩⟩, by rw [hll]; exact hl, by rw [hll]; exact Nat.le_trans hl hm⟩
    obtain ⟨g0, g1, g2, g3⟩ := hq j s hj
    refine ⟨[.int .i64 s.f0, .int .i64 s.f1, .int .i64 s.f2, .int .i64 s.f3], rfl, k82_mk w s, fun i u hu => ?_⟩
    show w.cell? (a.add (j * 4 + i)) = some u
    match i, hu with
    | 0, hu => simp at hu; subst hu; exact g0
    | 1, hu => simp at hu; subst hu; exact g1
    | 2, hu => simp at hu; subst hu; exact g2
    | 3, hu => simp at hu; subst hu; exact g3
    | i + 4, hu => simp at hu
/-- Bolts, handed over. -/
theorem bolts_of {t : TypeId} {f0 f1 g0 g1 g2 g3 : Field} {e0 e1 : TypeId} {fuel : Nat} {v : Value} {d : DataW H} {p : List MemPlace} {r : Reach} {b0 : Nat} (ht : P.underlying t = some (.struct #[f0, f1])) (hc : P.cellsOf t = 2) (o0 : f0.offset = 0) (o1 : f1.offset = 1)
    (c0 : P.cellsOf f0.type = 1) (c1 : P.cellsOf f1.type = 1) (u0 : P.underlying f0.type = some (.slice e0)) (u1 : P.underlying f1.type = some (.slice e1)) (ue0 : P.underlying e0 = some (.int .i64)) (ce0 : P.cellsOf e0 = 1)
    (ue1 : P.underlying e1 = some (.struct #[g0, g1, g2, g3])) (ce1 : P.cellsOf e1 = 4)
    (p0 : g0.offset = 0) (p1 : g1.offset = 1) (p2 : g2.offset = 2) (p3 : g3.offset = 3) (d0 : P.cellsOf g0.type = 1) (d1 : P.cellsOf g1.type = 1) (d2 : P.cellsOf g2.type = 1) (d3 : P.cellsOf g3.type = 1)
    (q0 : P.underlying g0.type = some (.int .i64)) (q1 : P.underlying g1.type = some (.int .i64)) (q2 : P.underlying g2.type = some (.int .i64)) (q3 : P.underlying g3.type = some (.int .i64)) (hv : Value.okWide P w r b0 t v)
    (h : DataW.trod enc P w base spare held fuel t v.cells.toList = some (d, p)) :
    ∃ (A0 : Option Addr) (k0 : Nat) (l0 : List Int) (A1 : Option Addr) (k1 : Nat) (l1 : List S82), v = .agg #[.slice A0 l0.length k0, .slice A1 l1.length k1] ∧ Kd.C (Kd.int .i64) w A0 l0.length l0 ∧ l0.length ≤ k0 ∧ l0.length ≤ maxLen ∧ (∀ n ∈ l0, (Lit.int .i64 n).wf = true) ∧
      Kd.C k82 w A1 l1.length l1 ∧ l1.length ≤ k1 ∧ l1.length ≤ maxLen := by
  obtain ⟨cs, rfl, hcs⟩ := okWide_struct ht hv
  rw [hc] at hcs
  obtain ⟨a0, a1, rfl⟩ : ∃ a0 a1, cs = #[a0, a1] := by
    match cs, hcs with
    | ⟨[a0, a1]⟩, _ => exact ⟨a0, a1, rfl⟩
  obtain ⟨y0, y1, n, _, _, h0, h1⟩ := trod_struct2 ht h
  simp [agg_cells, o0, o1, c0, c1] at h0 h1
  obtain ⟨A0, k0, l0, e0', i1, i2, i3, i4⟩ := ints_of u0 ue0 ce0 h0
  obtain ⟨A1, k1, l1, e1', j1, j2, j3⟩ := blocks_of u1 ue1 ce1 p0 p1 p2 p3 d0 d1 d2 d3 q0 q1 q2 q3 h1
  simp at e0' e1'
  subst e0' e1'
  exact ⟨A0, k0, l0, A1, k1, l1, rfl, i1, i2, i3, i4, j1, j2, j3⟩
end Go.Proofs.Ytehhfcbhoaocdaa.RowMore
