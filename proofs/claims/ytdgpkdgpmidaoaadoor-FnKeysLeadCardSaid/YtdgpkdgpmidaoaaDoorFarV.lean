/-
  A row that is only read lies in its footprint: a block outside is none of its own.
-/
import Derived.Test.YtdgpkdgpmidaoaaDoorWMore
namespace Go.Proofs.YtdgpkdgpmidaoaaDoorW.PrintWords
open Go.RowKit

theorem far_V {W : World} {ok : Nat → Prop} {A : Option Addr} {n g : Nat} {xs : List ByteArray} (h : Kd.F Kd.string W ok A n xs) (hok : ∀ k, ok k → k ≠ g) : ∀ ad, A = some ad → 0 < n → ad.block ≠ g := by
  intro ad hA hn he
  have hc := h { W with heap := W.heap.setIfInBounds g (.stringIter ByteArray.empty 0) } (fun k hk _ => Array.getElem?_setIfInBounds_ne (fun e => hok k hk e.symm))
  obtain ⟨ad', e, hx⟩ := Kd.at_string hc 0 (by omega) (by omega)
  rw [hA] at e
  cases e
  have hb : (ad.add (0 : Int).toNat).block = g := by
    rw [add_block]
    exact he
  unfold World.cell? at hx
  rw [hb] at hx
  by_cases c : g < W.heap.size
  · rw [Array.getElem?_setIfInBounds_self_of_lt c] at hx
    simp at hx
  · rw [Array.getElem?_eq_none (by rw [Array.size_setIfInBounds]; omega)] at hx
    simp at hx
end Go.Proofs.YtdgpkdgpmidaoaaDoorW.PrintWords
