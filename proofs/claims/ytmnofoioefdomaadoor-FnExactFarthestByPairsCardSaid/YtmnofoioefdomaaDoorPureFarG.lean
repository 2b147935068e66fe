/-
  The pure statement of the law on FarthestByPairs.
-/
import Derived.Test.YtmnofoioefdomaaDoorLemPickG
import Derived.Test.YtmnofoioefdomaaDoorLemStrSG
import Derived.Test.YtmnofoioefdomaaDoorPGx8
namespace Go.Proofs.YtmnofoioefdomaaDoor.Pure
open Go.RowKit Go.Proofs.YtmnofoioefdomaaDoor.PG Go.Proofs.YtmnofoioefdomaaDoorW.PrintWords Go.Proofs.YtmnofoioefdomaaDoorW.PrintLast Go.Proofs.YtmnofoioefdomaaDoorW.PrintMore Go.Proofs.YtmnofoioefdomaaDoor.Ring Go.Proofs.YtmnofoioefdomaaDoor.Lem Go.Proofs.YtmnofoioefdomaaDoor.Bfs
set_option linter.unusedVariables false
theorem mx_le (a b : Int) : a ≤ mx a b ∧ b ≤ mx a b ∧ (mx a b = a ∨ mx a b = b) := by
  unfold mx
  split <;> omega
theorem most_eq (a b : Int) : spec_l1Most.f a b = some (mx a b) := by
  unfold spec_l1Most.f mx
  by_cases h : a > b
  · rw [if_pos h]; congr 1; split <;> omega
  · rw [if_neg h]; congr 1; split <;> omega
/-- The greatest of a start and so many values. -/
def topU (f : Nat → Int) (b : Int) : Nat → Int
  | 0 => b
  | n + 1 => mx (topU f b n) (f n)
theorem topU_ge (f : Nat → Int) (b : Int) : ∀ n, b ≤ topU f b n ∧ (∀ m, m < n → f m ≤ topU f b n) ∧ (topU f b n = b ∨ ∃ m, m < n ∧ topU f b n = f m)
  | 0 => ⟨Int.le_refl _, fun m hm => absurd hm (Nat.not_lt_zero m), .inl rfl⟩
  | n + 1 => by
    obtain ⟨h1, h2, h3⟩ := topU_ge f b n
    obtain ⟨g1, g2, g3⟩ := mx_le (topU f b n) (f n)
    refine ⟨Int.le_trans h1 g1, fun m hm => ?_, ?_⟩
    · by_cases e : m = n
      · subst e; exact g2
      · exact Int.le_trans (h2 m (by omega)) g1
    · show mx (topU f b n) (f n) = b ∨ _
      rcases g3 with g | g
      · rcases h3 with h | ⟨m, hm, h⟩
        · exact .inl (g.trans h)
        · exact .inr ⟨m, by omega, g.trans h⟩
      · exact .inr ⟨n, by omega, g⟩
theorem topU_same (f : Nat → Int) (N m0 : Nat) (hm : m0 < N) (h0 : 0 ≤ f m0) : topU f 0 N = topU f (f 0) N := by
  obtain ⟨a1, a2, a3⟩ := topU_ge f 0 N
  obtain ⟨b1, b2, b3⟩ := topU_ge f (f 0) N
  apply Int.le_antisymm
  · rcases a3 with h | ⟨m, hm', h⟩
    · rw [h]; exact Int.le_trans h0 (b2 m0 hm)
    · rw [h]; exact b2 m hm'
  · rcases b3 with h | ⟨m, hm', h⟩
    · rw [h]; exact a2 0 (by omega)
    · rw [h]; exact a2 m hm'
def fF (s : St Nat) (n : Nat) : Int := fz (s.far n)
def isTop (s : St Nat) (x : Int) (n : Nat) : Bool := fz (s.far n) == x
theorem max_l0 (N : Nat) (hN : N ≤ 4096) (s : St Nat) : ∀ (d n : Nat), n + d = N → Ev (fun k => slices_Max_int_int.l0 k (farL N s) (topU (fF s) (fF s 0) n) (n : Int)) (topU (fF s) (fF s 0) N) := by
  intro d
  induction d with
  | zero =>
    intro n hd
    have hn : n = N := by omega
    subst hn
    refine Ev.step (f := fun _ => some (topU (fF s) (fF s 0) n)) (fun k => ?_) (Ev.now _)
    simp only [slices_Max_int_int.l0]
    rw [farL_length, if_neg (Int.lt_irrefl _)]
  | succ d ih =>
    intro n hd
    have hlt : n < N := by omega
    have hlt' : (n : Int) < (N : Int) := Int.ofNat_lt.2 hlt
    have hs1 : wrap64 ((n : Int) + 1) = ((n + 1 : Nat) : Int) := succ64 (by omega)
    refine Ev.step (fun k => ?_) (ih (n + 1) (by omega))
    simp only [slices_Max_int_int.l0]
    rw [farL_length, if_pos hlt', if_pos (Int.natCast_nonneg _), farL_rd s hlt, hs1]
    rfl
theorem max_run (N : Nat) (h0 : 0 < N) (hN : N ≤ 4096) (s : St Nat) : Ev (fun k => slices_Max_int_int.f k (farL N s)) (topU (fF s) (fF s 0) N) := by
  have h := max_l0 N hN s (N - 1) 1 (by omega)
  have e1 : topU (fF s) (fF s 0) 1 = fF s 0 := by
    show mx (fF s 0) (fF s 0) = fF s 0
    rcases (mx_le (fF s 0) (fF s 0)).2.2 with h | h <;> exact h
  rw [e1] at h
  have hf : rd (farL N s) (0 : Int) = fF s 0 := farL_rd (t := 0) s h0
  unfold slices_Max_int_int.f
  refine Ev.congr (fun k => ?_) h
  rw [farL_length, if_neg (by omega), if_pos (by omega), hf]
  rfl
theorem far_l1 (x0 : ByteArray) (r : Nat) (hr : r ≤ 12) (hx : x0.data.toList.length = r) (s : St Nat) (x : Int) : ∀ (d n : Nat), n + d = 2 ^ r →
    Ev (fun k => spec_FarthestByPairs.l1 k x0 x (pickT r (isTop s x) n) (farL (2 ^ r) s) ((2 ^ r : Nat) : Int) (n : Int)) (pickT r (isTop s x) (2 ^ r), x, true) := by
  intro d
  have h4096 := pow_le12 hr
  induction d with
  | zero =>
    intro n hd
    have hn : n = 2 ^ r := by omega
    refine Ev.step (f := fun _ => some (pickT r (isTop s x) (2 ^ r), x, true)) (fun k => ?_) (Ev.now _)
    simp only [spec_FarthestByPairs.l1]
    rw [hn, if_neg (Int.lt_irrefl _)]
  | succ d ih =>
    intro n hd
    have hlt : n < 2 ^ r := by omega
    have h2 := ih (n + 1) (by omega)
    have hl := pickT_len r (isTop s x) n
    have hlt' : (n : Int) < ((2 ^ r : Nat) : Int) := Int.ofNat_lt.2 hlt
    have hs1 : wrap64 ((n : Int) + 1) = ((n + 1 : Nat) : Int) := succ64 (by omega)
    have hf := farL_rd s hlt
    rw [pickT_succ] at h2
    by_cases h : fz (s.far n) = x
    · rw [if_pos (by simpa [isTop] using h)] at h2
      have hst := riState r n (by omega) (by omega)
      refine ev_num hst h2 (fun k hk => ?_)
      simp only [spec_FarthestByPairs.l1]
      rw [if_pos hlt', if_pos (Int.natCast_nonneg _), farL_length, if_pos hlt', hf, if_pos h, size_eq, hx, hk, obind, if_pos (by omega), hs1]
      rfl
    · rw [if_neg (by simpa [isTop] using h)] at h2
      refine Ev.step (fun k => ?_) h2
      simp only [spec_FarthestByPairs.l1]
      rw [if_pos hlt', if_pos (Int.natCast_nonneg _), farL_length, if_pos hlt', hf, if_neg h, hs1]
theorem far_l0' (x0 : ByteArray) (r : Nat) (hr : r ≤ 12) (hx : x0.data.toList.length = r) (s : St Nat) : ∀ (d n : Nat), n + d = 2 ^ r →
    Ev (fun k => spec_FarthestByPairs.l0 k x0 (farL (2 ^ r) s) (topU (fF s) 0 n) (farL (2 ^ r) s) ((2 ^ r : Nat) : Int) (n : Int)) (pickT r (isTop s (topU (fF s) 0 (2 ^ r))) (2 ^ r), topU (fF s) 0 (2 ^ r), true) := by
  intro d
  have h4096 := pow_le12 hr
  induction d with
  | zero =>
    intro n hd
    have hn : n = 2 ^ r := by omega
    have h2 := far_l1 x0 r hr hx s (topU (fF s) 0 (2 ^ r)) (2 ^ r) 0 (Nat.zero_add _)
    refine Ev.step (fun k => ?_) h2
    simp only [spec_FarthestByPairs.l0]
    rw [hn, if_neg (Int.lt_irrefl _), farL_length]
    rfl
  | succ d ih =>
    intro n hd
    have hlt : n < 2 ^ r := by omega
    have hlt' : (n : Int) < ((2 ^ r : Nat) : Int) := Int.ofNat_lt.2 hlt
    have hs1 : wrap64 ((n : Int) + 1) = ((n + 1 : Nat) : Int) := succ64 (by omega)
    refine Ev.step (fun k => ?_) (ih (n + 1) (by omega))
    simp only [spec_FarthestByPairs.l0]
    rw [if_pos hlt', if_pos (Int.natCast_nonneg _), farL_length, if_pos hlt', farL_rd s hlt, most_eq, obind, hs1]
    rfl
theorem far_spec (a0 : ByteArray) : ∃ v : List ByteArray × Int × Bool, v.1.length ≤ 4096 ∧ Ev (fun k => spec_FarthestByPairs.f k a0) v ∧ Ev (fun k => impl_FarthestByPairs.f k a0) v := by
  have hg := twGood a0
  cases h : goodP a0.data.toList with
  | false =>
    rw [h] at hg
    refine ⟨([], 0, false), by simp, ?_, ?_⟩
    · unfold spec_FarthestByPairs.f
      exact Ev.bind hg (Ev.congr (fun k => if_neg (by simp)) (Ev.now _))
    · unfold impl_FarthestByPairs.f
      rw [isPaired, h]
      exact Ev.congr (fun k => by rw [obind, if_neg (by simp)]) (Ev.now _)
  | true =>
    rw [h] at hg
    obtain ⟨r, s, h2, h12, hl, hn, hf, e1, e2⟩ := one_run h
    have h4096 := pow_le12 h12
    have hp : 0 < 2 ^ r := Nat.two_pow_pos r
    have hs0 : 0 ≤ fF s (num a0.data.toList) := by
      obtain ⟨m, hm, _⟩ := hf.least _ 0 .nil
      unfold fF
      rw [hm]
      exact Int.natCast_nonneg _
    have hsame := topU_same (fF s) (2 ^ r) (num a0.data.toList) hn hs0
    refine ⟨(pickT r (isTop s (topU (fF s) 0 (2 ^ r))) (2 ^ r), topU (fF s) 0 (2 ^ r), true), Nat.le_trans (pickT_len r _ (2 ^ r)) h4096, ?_, ?_⟩
    · unfold spec_FarthestByPairs.f
      refine Ev.bind hg (Ev.congr (fun k => if_pos rfl) (Ev.bind e1 ?_))
      rw [farL_length]
      exact far_l0' a0 r h12 hl s (2 ^ r) 0 (Nat.zero_add _)
    · unfold impl_FarthestByPairs.f
      rw [isPaired, h, hsame]
      refine Ev.congr (fun k => by rw [obind, if_pos rfl]) (Ev.bind e2 (Ev.bind (max_run (2 ^ r) hp h4096 s) ?_))
      rw [size_eq, hl]
      refine Ev.bind (withNums (impl_FarthestByPairs.take (farL (2 ^ r) s) (topU (fF s) (fF s 0) (2 ^ r))) (isTop s (topU (fF s) (fF s 0) (2 ^ r))) r h12 (fun n hn => ?_)) (Ev.now _)
      refine Ev.congr (fun k => ?_) (Ev.now _)
      unfold impl_FarthestByPairs.take
      rw [if_pos (Int.natCast_nonneg _), farL_length, if_pos (Int.ofNat_lt.2 hn), farL_rd s hn]
      rfl
theorem FnExactFarthestByPairs : laws_FnExactFarthestByPairs.Pure := by
  intro a0 _
  obtain ⟨v, hl, h1, h2⟩ := far_spec a0
  obtain ⟨m, hm1, hm2⟩ := marks v.1 (by omega)
  have he := eqSS v.1 (by omega)
  refine Ev.rounds ?_
  unfold laws_FnExactFarthestByPairs.f
  by_cases c1 : (a0.size : Int) > 1048576
  · exact Ev.congr (fun k => if_pos c1) (Ev.now _)
  · refine Ev.congr (fun k => if_neg c1) (Ev.bind h1 (Ev.bind h2 (Ev.bind he ?_)))
    refine Ev.congr (fun k => by rw [if_pos rfl, if_pos rfl]) ?_
    have hne : (v.2.2 != v.2.2) = false := by simp
    rw [hne]
    refine Ev.step (fun k => by simp only [laws_FnExactFarthestByPairs.j0]; rw [if_neg (by simp)]) (Ev.bind hm1 (Ev.bind hm2 ?_))
    refine Ev.congr (fun k => by rw [if_neg (by omega), if_pos rfl]) (Ev.bind h2 (Ev.bind he ?_))
    refine Ev.congr (fun k => by rw [if_pos rfl, if_pos rfl]) ?_
    simp only [hne]
    refine Ev.step (fun k => by simp only [laws_FnExactFarthestByPairs.j1]; rw [if_neg (by simp)]) (Ev.bind hm2 ?_)
    exact Ev.congr (fun k => by rw [if_neg (by omega), if_pos rfl]) (Ev.now _)
end Go.Proofs.YtmnofoioefdomaaDoor.Pure
