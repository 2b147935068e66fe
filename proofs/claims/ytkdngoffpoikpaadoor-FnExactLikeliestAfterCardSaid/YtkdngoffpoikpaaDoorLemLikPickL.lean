/-
  Picked states, the greatest of a row (lines of LemPick, PureFar).
-/
import Derived.Test.YtkdngoffpoikpaaDoorLemLikL
import Derived.Test.YtkdngoffpoikpaaDoorPLx5
namespace Go.Proofs.YtkdngoffpoikpaaDoor.Lem
open Go.RowKit Go.Proofs.YtkdngoffpoikpaaDoor.PL Go.Proofs.YtkdngoffpoikpaaDoorW.PrintWords Go.Proofs.YtkdngoffpoikpaaDoorW.PrintLast Go.Proofs.YtkdngoffpoikpaaDoorW.PrintMore Go.Proofs.YtkdngoffpoikpaaDoor.Ring
set_option linter.unusedVariables false
set_option linter.unusedSimpArgs false
theorem ev_num {α β : Type} {f : Nat → Option β} {t : β} {g h : Nat → Option α} {r : α} (hn : Ev f t) (hh : Ev h r) (he : ∀ k, f k = some t → g (k + 1) = h k) : Ev g r := by
  obtain ⟨K1, h1⟩ := hn
  obtain ⟨K2, h2⟩ := hh
  refine ⟨max K1 K2 + 1, fun n hn => ?_⟩
  obtain ⟨k, rfl⟩ : ∃ k, n = k + 1 := ⟨n - 1, by omega⟩
  rw [he k (h1 k (by omega))]
  exact h2 k (by omega)
theorem ev_num2 {α β γ : Type} {f : Nat → Option β} {e : Nat → Option γ} {a : β} {b : γ} {g h : Nat → Option α} {r : α} (hf : Ev f a) (hb : Ev e b) (hh : Ev h r) (he : ∀ k, f k = some a → e k = some b → g (k + 1) = h k) : Ev g r := by
  obtain ⟨K1, h1⟩ := hf
  obtain ⟨K2, h2⟩ := hb
  obtain ⟨K3, h3⟩ := hh
  refine ⟨max K1 (max K2 K3) + 1, fun n hn => ?_⟩
  obtain ⟨k, rfl⟩ : ∃ k, n = k + 1 := ⟨n - 1, by omega⟩
  rw [he k (h1 k (by omega)) (h2 k (by omega))]
  exact h3 k (by omega)
def stB (r n : Nat) : ByteArray := ⟨(stOf r n).toArray⟩
theorem pow12 {r : Nat} (h : r ≤ 12) : 2 ^ r ≤ 4096 := Nat.pow_le_pow_right (by decide) h
theorem succ64 {n : Nat} (h : n < 4611686018427387904) : wrap64 ((n : Int) + 1) = ((n + 1 : Nat) : Int) := by rw [w64 (by omega) (by omega)]; omega
def pickU (p : Nat → Bool) (n : Nat) : List Nat := (List.range n).filter p
theorem pickU_succ (p : Nat → Bool) (n : Nat) : pickU p (n + 1) = if p n = true then pickU p n ++ [n] else pickU p n := by
  unfold pickU
  rw [List.range_succ, List.filter_append]
  by_cases h : p n = true
  · rw [if_pos h]; simp [h]
  · rw [if_neg h]; simp [h]
theorem pickU_len (p : Nat → Bool) (n : Nat) : (pickU p n).length ≤ n := by
  unfold pickU
  have := List.length_filter_le p (List.range n)
  rw [List.length_range] at this
  exact this
def pickT (r : Nat) (p : Nat → Bool) (n : Nat) : List ByteArray := (pickU p n).map (stB r)
theorem pickT_len (r : Nat) (p : Nat → Bool) (n : Nat) : (pickT r p n).length ≤ n := by unfold pickT; rw [List.length_map]; exact pickU_len p n
theorem pickT_succ (r : Nat) (p : Nat → Bool) (n : Nat) : pickT r p (n + 1) = if p n = true then pickT r p n ++ [stB r n] else pickT r p n := by
  unfold pickT
  rw [pickU_succ]
  by_cases h : p n = true
  · rw [if_pos h, if_pos h, List.map_append]; rfl
  · rw [if_neg h, if_neg h]
theorem withNums_l0 (take : Nat → Int → Option Bool) (p : Nat → Bool) (r : Nat) (hr : r ≤ 12) (ht : ∀ n : Nat, n < 2 ^ r → Ev (fun k => take k (n : Int)) (p n)) : ∀ (d n : Nat), n + d = 2 ^ r →
    Ev (fun k => impl_withNumbers.l0 take k (r : Int) (pickT r p n) (n : Int)) (pickT r p (2 ^ r)) := by
  intro d
  have h4096 := pow12 hr
  have hsh := shl_one r (by omega)
  induction d with
  | zero =>
    intro n hd
    have hn : n = 2 ^ r := by omega
    refine Ev.step (f := fun _ => some (pickT r p (2 ^ r))) (fun k => ?_) (Ev.now _)
    simp only [impl_withNumbers.l0]
    rw [hsh, hn, if_neg (Int.lt_irrefl _)]
  | succ d ih =>
    intro n hd
    have hlt : n < 2 ^ r := by omega
    have h2 := ih (n + 1) (by omega)
    have hl := pickT_len r p n
    have hlt' : (n : Int) < ((2 ^ r : Nat) : Int) := Int.ofNat_lt.2 hlt
    have hs1 : wrap64 ((n : Int) + 1) = ((n + 1 : Nat) : Int) := succ64 (by omega)
    rw [pickT_succ] at h2
    by_cases h : p n = true
    · rw [if_pos h] at h2
      have hst := state r n (by omega) (by omega)
      refine ev_num2 (ht n hlt) hst h2 (fun k hk1 hk2 => ?_)
      simp only [impl_withNumbers.l0]
      rw [hsh, if_pos hlt', hk1, obind, if_pos h, hk2, obind, if_pos (by omega), hs1]
      rfl
    · rw [if_neg h] at h2
      refine ev_num (ht n hlt) h2 (fun k hk1 => ?_)
      simp only [impl_withNumbers.l0]
      rw [hsh, if_pos hlt', hk1, obind, if_neg h, hs1]
theorem withNums (take : Nat → Int → Option Bool) (p : Nat → Bool) (r : Nat) (hr : r ≤ 12) (ht : ∀ n : Nat, n < 2 ^ r → Ev (fun k => take k (n : Int)) (p n)) :
    Ev (fun k => impl_withNumbers.f take k (r : Int)) (pickT r p (2 ^ r)) := by
  unfold impl_withNumbers.f
  exact Ev.congr (fun k => if_pos (Int.natCast_nonneg _)) (withNums_l0 take p r hr ht (2 ^ r) 0 (Nat.zero_add _))
theorem mx_le (a b : Int) : a ≤ mx a b ∧ b ≤ mx a b ∧ (mx a b = a ∨ mx a b = b) := by
  unfold mx
  split <;> omega
theorem most_eq (a b : Int) : spec_l1Most.f a b = some (mx a b) := by
  unfold spec_l1Most.f mx
  by_cases h : a > b
  · rw [if_pos h]; congr 1; split <;> omega
  · rw [if_neg h]; congr 1; split <;> omega
def topU (f : Nat → Int) (b : Int) : Nat → Int
  | 0 => b
  | n + 1 => mx (topU f b n) (f n)
theorem topU_ge (f : Nat → Int) (b : Int) : ∀ n, b ≤ topU f b n ∧ (∀ m, m < n → f m ≤ topU f b n) ∧ (topU f b n = b ∨ ∃ m, m < n ∧ topU f b n = f m)
  | 0 => ⟨Int.le_refl _, fun m hm => absurd hm (Nat.not_lt_zero m), .inl rfl⟩
  | n + 1 => by
    obtain ⟨h1, h2, h3⟩ := topU_ge f b n
    obtain ⟨g1, g2, g3⟩ := mx_le (topU f b n) (f n)
    refine ⟨Int.le_trans h1 g1, fun m hm => ?_, ?_⟩
    · by_cases e : m = n
      · subst e; exact g2
      · exact Int.le_trans (h2 m (by omega)) g1
    · show mx (topU f b n) (f n) = b ∨ _
      rcases g3 with g | g
      · rcases h3 with h | ⟨m, hm, h⟩
        · exact .inl (g.trans h)
        · exact .inr ⟨m, by omega, g.trans h⟩
      · exact .inr ⟨n, by omega, g⟩
end Go.Proofs.YtkdngoffpoikpaaDoor.Lem
