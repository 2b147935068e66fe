/-
  The farthest state that slides lead to: the law holds.
-/
import Derived.Test.YtejkogiiocbmfaaLemNumBC
import Derived.Test.YtejkogiiocbmfaaLemCopyC
import Derived.Test.YtejkogiiocbmfaaPCx23
namespace Go.Proofs.Ytejkogiiocbmfaa.Lem
open Go.RowKit Go.Proofs.Ytejkogiiocbmfaa.PC Go.Proofs.YtejkogiiocbmfaaW.PrintWords Go.Proofs.YtejkogiiocbmfaaW.PrintLast Go.Proofs.YtejkogiiocbmfaaW.PrintMore Go.Proofs.Ytejkogiiocbmfaa.Bfs
set_option linter.unusedVariables false
set_option linter.unusedSimpArgs false

/-- b is no worse than j. -/
def bet (g : Nat → Int) (b j : Nat) : Prop := g j < g b ∨ (g j = g b ∧ b ≤ j)
theorem bet.trans {g : Nat → Int} {a b c : Nat} (h1 : bet g a b) (h2 : bet g b c) : bet g a c := by unfold bet at *; omega
theorem bet.refl (g : Nat → Int) (a : Nat) : bet g a a := by unfold bet; omega
theorem spec_far_l0 {pl : List Int} {bl : List Blk} (hg : goodB pl bl = true) {F : List Int} (hF : F.length = prodB pl) : ∀ d i b, i + d = prodB pl → b < prodB pl → (∀ j, j < i → bet (fun n => F.getD n 0) b j) →
    ∃ c, c < prodB pl ∧ bet (fun n => F.getD n 0) c b ∧ (∀ j, j < prodB pl → bet (fun n => F.getD n 0) c j) ∧ Ev (fun k => spec_FarthestSlid.l0 k F (b : Int) (prodB pl : Int) (i : Int) pl bl) (tx (stN pl c), F.getD c 0, true) := by
  have hp := (prodB_le hg).1
  intro d
  induction d with
  | zero =>
    intro i b hi hb hj
    obtain rfl : i = prodB pl := by omega
    refine ⟨b, hb, bet.refl _ _, hj, ?_⟩
    refine ev_num (boState hg hb) (Ev.now (tx (stN pl b), F.getD b 0, true)) (fun k hk => ?_)
    simp only [spec_FarthestSlid.l0]
    rw [if_neg (Int.lt_irrefl _), hk, obind, if_pos (Int.natCast_nonneg _), if_pos (by rw [hF]; exact Int.ofNat_lt.2 hb), rdD]
  | succ d ih =>
    intro i b hi hb hj
    have hil : i < prodB pl := by omega
    have hsi : wrap64 ((i : Int) + 1) = ((i + 1 : Nat) : Int) := succ64 (by omega)
    have e0 : ∀ k, spec_FarthestSlid.l0 (k + 1) F (b : Int) (prodB pl : Int) (i : Int) pl bl = (if F.getD i 0 > F.getD b 0 then (spec_FarthestSlid.l0 k F (i : Int) (prodB pl : Int) ((i + 1 : Nat) : Int) pl bl) else (if F.getD i 0 = F.getD b 0 then (if (i : Int) < (b : Int) then (spec_FarthestSlid.l0 k F (i : Int) (prodB pl : Int) ((i + 1 : Nat) : Int) pl bl) else (spec_FarthestSlid.l0 k F (b : Int) (prodB pl : Int) ((i + 1 : Nat) : Int) pl bl)) else (spec_FarthestSlid.l0 k F (b : Int) (prodB pl : Int) ((i + 1 : Nat) : Int) pl bl))) := by
      intro k
      simp only [spec_FarthestSlid.l0]
      rw [if_pos (Int.ofNat_lt.2 hil), if_pos (Int.natCast_nonneg _), if_pos (by rw [hF]; exact Int.ofNat_lt.2 hil), if_pos (Int.natCast_nonneg _), if_pos (by rw [hF]; exact Int.ofNat_lt.2 hb), rdD, rdD, hsi]
    have take : bet (fun n => F.getD n 0) i b → (∀ k, spec_FarthestSlid.l0 (k + 1) F (b : Int) (prodB pl : Int) (i : Int) pl bl = spec_FarthestSlid.l0 k F (i : Int) (prodB pl : Int) ((i + 1 : Nat) : Int) pl bl) → (∃ c, c < prodB pl ∧ bet (fun n => F.getD n 0) c b ∧ (∀ j, j < prodB pl → bet (fun n => F.getD n 0) c j) ∧ Ev (fun k => spec_FarthestSlid.l0 k F (b : Int) (prodB pl : Int) (i : Int) pl bl) (tx (stN pl c), F.getD c 0, true)) := fun hbt he => by
      obtain ⟨c, hc, h1, h2, h3⟩ := ih (i + 1) i (by omega) hil (fun j hji => by
        by_cases e : j = i
        · rw [e]; exact bet.refl _ _
        · exact hbt.trans (hj j (by omega)))
      exact ⟨c, hc, h1.trans hbt, h2, Ev.step he h3⟩
    have keep : bet (fun n => F.getD n 0) b i → (∀ k, spec_FarthestSlid.l0 (k + 1) F (b : Int) (prodB pl : Int) (i : Int) pl bl = spec_FarthestSlid.l0 k F (b : Int) (prodB pl : Int) ((i + 1 : Nat) : Int) pl bl) → (∃ c, c < prodB pl ∧ bet (fun n => F.getD n 0) c b ∧ (∀ j, j < prodB pl → bet (fun n => F.getD n 0) c j) ∧ Ev (fun k => spec_FarthestSlid.l0 k F (b : Int) (prodB pl : Int) (i : Int) pl bl) (tx (stN pl c), F.getD c 0, true)) := fun hbt he => by
      obtain ⟨c, hc, h1, h2, h3⟩ := ih (i + 1) b (by omega) hb (fun j hji => by
        by_cases e : j = i
        · rw [e]; exact hbt
        · exact hj j (by omega))
      exact ⟨c, hc, h1, h2, Ev.step he h3⟩
    by_cases c1 : F.getD i 0 > F.getD b 0
    · exact take (Or.inl c1) (fun k => by rw [e0 k, if_pos c1])
    · by_cases c2 : F.getD i 0 = F.getD b 0
      · by_cases c3 : i < b
        · exact take (Or.inr ⟨c2.symm, Nat.le_of_lt c3⟩) (fun k => by rw [e0 k, if_neg c1, if_pos c2, if_pos (Int.ofNat_lt.2 c3)])
        · exact keep (Or.inr ⟨c2, Nat.le_of_not_lt c3⟩) (fun k => by rw [e0 k, if_neg c1, if_pos c2, if_neg (fun h => c3 (Int.ofNat_lt.1 h))])
      · exact keep (Or.inl (Int.lt_iff_le_and_ne.2 ⟨Int.not_lt.1 c1, c2⟩)) (fun k => by rw [e0 k, if_neg c1, if_neg c2])
def wt (st : St Stt) (s : Stt) : Int := fz (st.far s)
def bet2 (pl : List Int) (st : St Stt) (s t : Stt) : Prop := wt st t < wt st s ∨ (wt st t = wt st s ∧ numB pl s ≤ numB pl t)
theorem bet2.trans {pl : List Int} {st : St Stt} {a b c : Stt} (h1 : bet2 pl st a b) (h2 : bet2 pl st b c) : bet2 pl st a c := by unfold bet2 at *; omega
theorem bet2.refl (pl : List Int) (st : St Stt) (a : Stt) : bet2 pl st a a := by unfold bet2; omega
theorem impl_far_l0 {pl : List Int} {bl : List Blk} (hg : goodB pl bl = true) {st : St Stt} (hok : ∀ x ∈ st.q, okS pl bl x) (hf : ∀ x ∈ st.q, (fB st (tx x)).getD 0 = wt st x) (hlen : st.q.length ≤ 1000000) : ∀ d i b, i + d = st.q.length → b ∈ st.q → (∀ j (hj : j < st.q.length), j < i → bet2 pl st b st.q[j]) →
    ∃ c, c ∈ st.q ∧ (∀ x ∈ st.q, bet2 pl st c x) ∧ Ev (fun k => impl_reached_farthest.l0 (st.q.map tx) (fB st) k (tx b) (i : Int)) (tx c, wt st c) := by
  intro d
  induction d with
  | zero =>
    intro i b hi hb hj
    refine ⟨b, hb, fun x hx => ?_, Ev.step (f := fun _ => some (tx b, wt st b)) (fun k => ?_) (Ev.now _)⟩
    · obtain ⟨j, hjl, rfl⟩ := List.getElem_of_mem hx
      exact hj j hjl (by omega)
    · simp only [impl_reached_farthest.l0]
      rw [List.length_map, if_neg (fun h => by have := Int.ofNat_lt.1 h; omega), if_pos (ok_small hg (hok b hb)), hf b hb]
  | succ d ih =>
    intro i b hi hb hj
    have hil : i < st.q.length := by omega
    obtain ⟨u, hu⟩ : ∃ u, st.q[i] = u := ⟨_, rfl⟩
    have huq : u ∈ st.q := hu ▸ List.getElem_mem hil
    have hsi : wrap64 ((i : Int) + 1) = ((i + 1 : Nat) : Int) := succ64 (by omega)
    have hless := less_num hg (hok u huq).1 (hok b hb).1
    have e0 : ∀ k, impl_reached_farthest.l0 (st.q.map tx) (fB st) (k + 1) (tx b) (i : Int) = (if wt st u > wt st b then impl_reached_farthest.l0 (st.q.map tx) (fB st) k (tx u) ((i + 1 : Nat) : Int) else (if wt st u = wt st b then (if decide (numB pl u < numB pl b) = true then impl_reached_farthest.l0 (st.q.map tx) (fB st) k (tx u) ((i + 1 : Nat) : Int) else impl_reached_farthest.l0 (st.q.map tx) (fB st) k (tx b) ((i + 1 : Nat) : Int)) else impl_reached_farthest.l0 (st.q.map tx) (fB st) k (tx b) ((i + 1 : Nat) : Int))) := by
      intro k
      simp only [impl_reached_farthest.l0]
      rw [if_pos (show (i : Int) < ((st.q.map tx).length : Int) by rw [List.length_map]; exact Int.ofNat_lt.2 hil), if_pos (Int.natCast_nonneg _), rdM hil, hu, if_pos ⟨ok_small hg (hok u huq), ok_small hg (hok b hb)⟩, hf u huq, hf b hb, hless, hsi]
    have take : bet2 pl st u b → (∀ k, impl_reached_farthest.l0 (st.q.map tx) (fB st) (k + 1) (tx b) (i : Int) = impl_reached_farthest.l0 (st.q.map tx) (fB st) k (tx u) ((i + 1 : Nat) : Int)) → (∃ c, c ∈ st.q ∧ (∀ x ∈ st.q, bet2 pl st c x) ∧ Ev (fun k => impl_reached_farthest.l0 (st.q.map tx) (fB st) k (tx b) (i : Int)) (tx c, wt st c)) := fun hbt he => by
      obtain ⟨c, hc, h2, h3⟩ := ih (i + 1) u (by omega) huq (fun j hjl hji => by
        by_cases e : j = i
        · subst e; rw [hu]; exact bet2.refl _ _ _
        · exact hbt.trans (hj j hjl (by omega)))
      exact ⟨c, hc, h2, Ev.step he h3⟩
    have keep : bet2 pl st b u → (∀ k, impl_reached_farthest.l0 (st.q.map tx) (fB st) (k + 1) (tx b) (i : Int) = impl_reached_farthest.l0 (st.q.map tx) (fB st) k (tx b) ((i + 1 : Nat) : Int)) → (∃ c, c ∈ st.q ∧ (∀ x ∈ st.q, bet2 pl st c x) ∧ Ev (fun k => impl_reached_farthest.l0 (st.q.map tx) (fB st) k (tx b) (i : Int)) (tx c, wt st c)) := fun hbt he => by
      obtain ⟨c, hc, h2, h3⟩ := ih (i + 1) b (by omega) hb (fun j hjl hji => by
        by_cases e : j = i
        · subst e; rw [hu]; exact hbt
        · exact hj j hjl (by omega))
      exact ⟨c, hc, h2, Ev.step he h3⟩
    by_cases c1 : wt st u > wt st b
    · exact take (Or.inl c1) (fun k => by rw [e0 k, if_pos c1])
    · by_cases c2 : wt st u = wt st b
      · by_cases c3 : numB pl u < numB pl b
        · exact take (Or.inr ⟨c2.symm, Nat.le_of_lt c3⟩) (fun k => by rw [e0 k, if_neg c1, if_pos c2, if_pos (decide_eq_true c3)])
        · exact keep (Or.inr ⟨c2, Nat.le_of_not_lt c3⟩) (fun k => by rw [e0 k, if_neg c1, if_pos c2, if_neg (by rw [decide_eq_true_eq]; exact c3)])
      · exact keep (Or.inl (Int.lt_iff_le_and_ne.2 ⟨Int.not_lt.1 c1, c2⟩)) (fun k => by rw [e0 k, if_neg c1, if_neg c2])
/-- Both answer the same. -/
theorem both_far (pl : List Int) (bl : List Blk) (s : Stt) (hl : pl.length ≤ 1048576) (hb : bl.length ≤ 1048576) : ∃ r, Ev (fun k => spec_FarthestSlid.f k pl bl (tx s)) r ∧ Ev (fun k => impl_FarthestSlid.f k pl bl (tx s)) r := by
  cases ha : askedB pl bl s with
  | false =>
    have h1 := boAsked pl bl s hl hb
    have h2 := good_one pl bl s hl hb
    rw [ha] at h1 h2
    exact ⟨(⟨#[]⟩, 0, false), by unfold spec_FarthestSlid.f; exact Ev.bind h1 (Ev.congr (fun k => if_neg (by simp)) (Ev.now _)), by unfold impl_FarthestSlid.f; exact Ev.bind h2 (Ev.congr (fun k => if_neg (by simp)) (Ev.now _))⟩
  | true =>
    obtain ⟨hg, hs⟩ := asked_parts ha
    have h1 := boAsked pl bl s hl hb
    have h2 := good_one pl bl s hl hb
    rw [ha] at h1 h2
    obtain ⟨F, hF, h⟩ := boFar hg hs
    obtain ⟨hI, hG⟩ := found_good (setup hg) (s := s) hs
    have hI : Inv (stepB pl bl) s (foundB pl bl s) (foundB pl bl s).q.length := hI
    have hG : GoodS (okS pl bl) (foundB pl bl s) := hG
    have hrun := search_run hg s hs
    have hlen := hG.len (setup hg) hI.nodup
    have hp := (prodB_le hg).1
    generalize foundB pl bl s = st at hF h hI hG hrun hlen
    have hsq : s ∈ st.q := (hI.iff s).1 (by rw [hI.zero]; rfl)
    have hws : wt st s = 0 := by unfold wt; rw [hI.zero]; rfl
    have hf : ∀ x ∈ st.q, (fB st (tx x)).getD 0 = wt st x := by
      intro x hx
      obtain ⟨v, hv⟩ := Option.isSome_iff_exists.1 ((hI.iff x).2 hx)
      rw [fB_tx]
      unfold wt
      rw [hv]
      rfl
    obtain ⟨b, hbN, hb1, hb2, hb3⟩ := spec_far_l0 hg hF.1 (prodB pl) 0 (numB pl s) (Nat.zero_add _) (numB_lt hg hs.1) (fun j hj => absurd hj (Nat.not_lt_zero _))
    obtain ⟨x0, hx0⟩ : ∃ x, st.q[0]'hI.pos = x := ⟨_, rfl⟩
    have hxq : x0 ∈ st.q := hx0 ▸ List.getElem_mem hI.pos
    obtain ⟨c, hcq, hc2, hc3⟩ := impl_far_l0 hg hG.ok hf (by omega) st.q.length 0 x0 (Nat.zero_add _) hxq (fun j _ hj => absurd hj (Nat.not_lt_zero _))
    obtain ⟨hu1, hu2⟩ := stN_ok hg hbN
    have hFw : ∀ t, isStB pl t = true → F.getD (numB pl t) 0 = wt st t := hF.2
    have hFu := hFw _ hu1
    rw [hu2] at hFu
    have hub : wt st (stN pl b) ≥ 0 := by
      have := hb2 (numB pl s) (numB_lt hg hs.1)
      simp only [bet] at this
      rw [hFw s hs.1, hFu, hws] at this
      omega
    have huq : stN pl b ∈ st.q := by
      apply (hI.iff _).1
      unfold wt at hub
      cases e : st.far (stN pl b) with
      | none => rw [e] at hub; exact absurd hub (by decide)
      | some v => rfl
    have k1 := hc2 _ huq
    have k2 := hb2 (numB pl c) (numB_lt hg (hG.ok c hcq).1)
    simp only [bet] at k2
    rw [hFw c (hG.ok c hcq).1, hFu] at k2
    unfold bet2 at k1
    rw [hu2] at k1
    have hnum : numB pl c = b := by omega
    have hce : c = stN pl b := numB_inj hg (hG.ok c hcq).1 hu1 (by rw [hnum, hu2])
    rw [hce, ← hFu] at hc3
    refine ⟨(tx (stN pl b), F.getD b 0, true), ?_, ?_⟩
    · unfold spec_FarthestSlid.f
      refine Ev.bind h1 (Ev.congr (fun k => if_pos rfl) (Ev.bind h (Ev.bind (boNumber pl bl s hg hs.1) ?_)))
      refine Ev.congr (fun k => ?_) hb3
      rw [hF.1]
      rfl
    · unfold impl_FarthestSlid.f
      refine Ev.bind h2 (Ev.congr (fun k => by rw [if_pos rfl, if_pos (ok_small hg hs)]) (Ev.bind hrun ?_))
      have hfar : Ev (fun k => impl_reached_farthest.f k (st.q.map tx) (fB st)) (tx (stN pl b), F.getD b 0) := by
        unfold impl_reached_farthest.f
        refine Ev.congr (fun k => ?_) hc3
        rw [if_pos (show (0 : Int) < ((st.q.map tx).length : Int) by rw [List.length_map]; exact Int.ofNat_lt.2 hI.pos)]
        have e := rdM hI.pos
        rw [hx0] at e
        rw [← e]
        rfl
      exact Ev.bind (f := fun _ (z : ByteArray × Int) => some (z.1, z.2, true)) hfar (Ev.now _)
end Go.Proofs.Ytejkogiiocbmfaa.Lem
namespace Go.Proofs.Ytejkogiiocbmfaa.Pure
open Go.RowKit Go.Proofs.Ytejkogiiocbmfaa.Lem Go.Proofs.Ytejkogiiocbmfaa.PC Go.Proofs.YtejkogiiocbmfaaW.PrintWords Go.Proofs.YtejkogiiocbmfaaW.PrintLast Go.Proofs.YtejkogiiocbmfaaW.PrintMore

theorem FnExactFarthestSlid : laws_FnExactFarthestSlid.Pure := by
  intro pl bl s hl _ hb _
  obtain ⟨t, ht, hc⟩ := szBolts pl bl hl hb
  have key : Ev (fun k => laws_FnExactFarthestSlid.f k pl bl s) true := by
    unfold laws_FnExactFarthestSlid.f
    by_cases d0 : (s.size : Int) > 1048576
    · exact Ev.congr (fun k => if_pos d0) (Ev.now _)
    refine Ev.congr (fun k => if_neg d0) ?_
    refine Ev.congr (fun k => by rw [ht, obind]) ?_
    by_cases c1 : t < 0
    · exact Ev.congr (fun k => if_pos c1) (Ev.now _)
    have hh := hc.resolve_left c1
    have hb2 : (bl.map cp).length ≤ 1048576 := by rw [List.length_map]; exact hh.2
    obtain ⟨R, e1, e2⟩ := both_far pl (bl.map cp) s.data.toList hh.1 hb2
    rw [tx_self] at e1 e2
    refine Ev.congr (fun k => if_neg c1) (Ev.bind (toBolts pl bl hh.1 hh.2) (Ev.bind e1 (Ev.bind (toBolts pl bl hh.1 hh.2) (Ev.bind e2 ?_))))
    refine Ev.congr (fun k => by rw [if_pos rfl, if_pos rfl, bne_self_eq_false]) ?_
    refine Ev.step (fun k => by simp only [laws_FnExactFarthestSlid.j0]; rw [if_neg Bool.false_ne_true]) (Ev.bind (toBolts pl bl hh.1 hh.2) ?_)
    exact Ev.bind (eqBolts pl (bl.map cp) hh.1 hb2) (Ev.congr (fun k => if_pos rfl) (Ev.now _))
  obtain ⟨K, h⟩ := key
  exact ⟨K, h K (Nat.le_refl _)⟩
end Go.Proofs.Ytejkogiiocbmfaa.Pure
