/-
  States near by pairs, the farthest ones, counts and the moves to clear: the law of all of them holds.
-/
import Derived.Test.YtgfjgpnaalblbaaGreatDoorLemPickN
import Derived.Test.YtgfjgpnaalblbaaGreatDoorLemDistN
import Derived.Test.YtgfjgpnaalblbaaGreatDoorLemDrawN
import Derived.Test.YtgfjgpnaalblbaaGreatDoorPNx11
namespace Go.Proofs.YtgfjgpnaalblbaaGreatDoor.Lem
open Go.RowKit Go.Proofs.YtgfjgpnaalblbaaGreatDoor.PN Go.Proofs.YtgfjgpnaalblbaaGreatDoorW.PrintWords Go.Proofs.YtgfjgpnaalblbaaGreatDoorW.PrintLast Go.Proofs.YtgfjgpnaalblbaaGreatDoorW.PrintMore Go.Proofs.YtgfjgpnaalblbaaGreatDoor.Ring Go.Proofs.YtgfjgpnaalblbaaGreatDoor.Bfs
set_option linter.unusedVariables false
set_option linter.unusedSimpArgs false

def nearP (s : St Nat) (x : Int) (n : Nat) : Bool := decide (fz (s.far n) ≤ x)
theorem near_l0 (x0 : ByteArray) (r : Nat) (hr : r ≤ 12) (hx : x0.data.toList.length = r) (s : St Nat) (x : Int) : ∀ (d n : Nat), n + d = 2 ^ r →
    Ev (fun k => spec_NearByPairs.l0 k x0 x (pickT r (nearP s x) n) (farL (2 ^ r) s) ((2 ^ r : Nat) : Int) (n : Int)) (pickT r (nearP s x) (2 ^ r), true) := by
  intro d
  have h4096 := pow_le12 hr
  induction d with
  | zero =>
    intro n hd
    have hn : n = 2 ^ r := by omega
    refine Ev.step (f := fun _ => some (pickT r (nearP s x) (2 ^ r), true)) (fun k => ?_) (Ev.now _)
    simp only [spec_NearByPairs.l0]
    rw [hn, if_neg (Int.lt_irrefl _)]
  | succ d ih =>
    intro n hd
    have hlt : n < 2 ^ r := by omega
    have h2 := ih (n + 1) (by omega)
    have hl := pickT_len r (nearP s x) n
    have hlt' : (n : Int) < ((2 ^ r : Nat) : Int) := Int.ofNat_lt.2 hlt
    have hs1 : wrap64 ((n : Int) + 1) = ((n + 1 : Nat) : Int) := succ64 (by omega)
    have hf := farL_rd s hlt
    rw [pickT_succ] at h2
    by_cases h : fz (s.far n) ≤ x
    · rw [if_pos (by simpa [nearP] using h)] at h2
      have hst := riState r n (by omega) (by omega)
      refine ev_num hst h2 (fun k hk => ?_)
      simp only [spec_NearByPairs.l0]
      rw [if_pos hlt', if_pos (Int.natCast_nonneg _), farL_length, if_pos hlt', hf, if_pos h, size_eq, hx, hk, obind, if_pos (by omega), hs1]
      rfl
    · rw [if_neg (by simpa [nearP] using h)] at h2
      refine Ev.step (fun k => ?_) h2
      simp only [spec_NearByPairs.l0]
      rw [if_pos hlt', if_pos (Int.natCast_nonneg _), farL_length, if_pos hlt', hf, if_neg h, hs1]
theorem mx_le (a b : Int) : a ≤ mx a b ∧ b ≤ mx a b ∧ (mx a b = a ∨ mx a b = b) := by
  unfold mx
  split <;> omega
theorem most_eq (a b : Int) : spec_l1Most.f a b = some (mx a b) := by
  unfold spec_l1Most.f mx
  by_cases h : a > b
  · rw [if_pos h]; congr 1; split <;> omega
  · rw [if_neg h]; congr 1; split <;> omega
def topU (f : Nat → Int) (b : Int) : Nat → Int
  | 0 => b
  | n + 1 => mx (topU f b n) (f n)
theorem topU_ge (f : Nat → Int) (b : Int) : ∀ n, b ≤ topU f b n ∧ (∀ m, m < n → f m ≤ topU f b n) ∧ (topU f b n = b ∨ ∃ m, m < n ∧ topU f b n = f m)
  | 0 => ⟨Int.le_refl _, fun m hm => absurd hm (Nat.not_lt_zero m), .inl rfl⟩
  | n + 1 => by
    obtain ⟨h1, h2, h3⟩ := topU_ge f b n
    obtain ⟨g1, g2, g3⟩ := mx_le (topU f b n) (f n)
    refine ⟨Int.le_trans h1 g1, fun m hm => ?_, ?_⟩
    · by_cases e : m = n
      · subst e; exact g2
      · exact Int.le_trans (h2 m (by omega)) g1
    · show mx (topU f b n) (f n) = b ∨ _
      rcases g3 with g | g
      · rcases h3 with h | ⟨m, hm, h⟩
        · exact .inl (g.trans h)
        · exact .inr ⟨m, by omega, g.trans h⟩
      · exact .inr ⟨n, by omega, g⟩
theorem topU_same (f : Nat → Int) (N m0 : Nat) (hm : m0 < N) (h0 : 0 ≤ f m0) : topU f 0 N = topU f (f 0) N := by
  obtain ⟨a1, a2, a3⟩ := topU_ge f 0 N
  obtain ⟨b1, b2, b3⟩ := topU_ge f (f 0) N
  apply Int.le_antisymm
  · rcases a3 with h | ⟨m, hm', h⟩
    · rw [h]; exact Int.le_trans h0 (b2 m0 hm)
    · rw [h]; exact b2 m hm'
  · rcases b3 with h | ⟨m, hm', h⟩
    · rw [h]; exact a2 0 (by omega)
    · rw [h]; exact a2 m hm'
def fF (s : St Nat) (n : Nat) : Int := fz (s.far n)
def isTop (s : St Nat) (x : Int) (n : Nat) : Bool := fz (s.far n) == x
theorem max_l0 (N : Nat) (hN : N ≤ 4096) (s : St Nat) : ∀ (d n : Nat), n + d = N → Ev (fun k => slices_Max_int_int.l0 k (farL N s) (topU (fF s) (fF s 0) n) (n : Int)) (topU (fF s) (fF s 0) N) := by
  intro d
  induction d with
  | zero =>
    intro n hd
    have hn : n = N := by omega
    subst hn
    refine Ev.step (f := fun _ => some (topU (fF s) (fF s 0) n)) (fun k => ?_) (Ev.now _)
    simp only [slices_Max_int_int.l0]
    rw [farL_length, if_neg (Int.lt_irrefl _)]
  | succ d ih =>
    intro n hd
    have hlt : n < N := by omega
    have hlt' : (n : Int) < (N : Int) := Int.ofNat_lt.2 hlt
    have hs1 : wrap64 ((n : Int) + 1) = ((n + 1 : Nat) : Int) := succ64 (by omega)
    refine Ev.step (fun k => ?_) (ih (n + 1) (by omega))
    simp only [slices_Max_int_int.l0]
    rw [farL_length, if_pos hlt', if_pos (Int.natCast_nonneg _), farL_rd s hlt, hs1]
    rfl
theorem max_run (N : Nat) (h0 : 0 < N) (hN : N ≤ 4096) (s : St Nat) : Ev (fun k => slices_Max_int_int.f k (farL N s)) (topU (fF s) (fF s 0) N) := by
  have h := max_l0 N hN s (N - 1) 1 (by omega)
  have e1 : topU (fF s) (fF s 0) 1 = fF s 0 := by
    show mx (fF s 0) (fF s 0) = fF s 0
    rcases (mx_le (fF s 0) (fF s 0)).2.2 with h | h <;> exact h
  rw [e1] at h
  have hf : rd (farL N s) (0 : Int) = fF s 0 := farL_rd (t := 0) s h0
  unfold slices_Max_int_int.f
  refine Ev.congr (fun k => ?_) h
  rw [farL_length, if_neg (by omega), if_pos (by omega), hf]
  rfl
theorem far_l1 (x0 : ByteArray) (r : Nat) (hr : r ≤ 12) (hx : x0.data.toList.length = r) (s : St Nat) (x : Int) : ∀ (d n : Nat), n + d = 2 ^ r →
    Ev (fun k => spec_FarthestByPairs.l1 k x0 x (pickT r (isTop s x) n) (farL (2 ^ r) s) ((2 ^ r : Nat) : Int) (n : Int)) (pickT r (isTop s x) (2 ^ r), x, true) := by
  intro d
  have h4096 := pow_le12 hr
  induction d with
  | zero =>
    intro n hd
    have hn : n = 2 ^ r := by omega
    refine Ev.step (f := fun _ => some (pickT r (isTop s x) (2 ^ r), x, true)) (fun k => ?_) (Ev.now _)
    simp only [spec_FarthestByPairs.l1]
    rw [hn, if_neg (Int.lt_irrefl _)]
  | succ d ih =>
    intro n hd
    have hlt : n < 2 ^ r := by omega
    have h2 := ih (n + 1) (by omega)
    have hl := pickT_len r (isTop s x) n
    have hlt' : (n : Int) < ((2 ^ r : Nat) : Int) := Int.ofNat_lt.2 hlt
    have hs1 : wrap64 ((n : Int) + 1) = ((n + 1 : Nat) : Int) := succ64 (by omega)
    have hf := farL_rd s hlt
    rw [pickT_succ] at h2
    by_cases h : fz (s.far n) = x
    · rw [if_pos (by simpa [isTop] using h)] at h2
      have hst := riState r n (by omega) (by omega)
      refine ev_num hst h2 (fun k hk => ?_)
      simp only [spec_FarthestByPairs.l1]
      rw [if_pos hlt', if_pos (Int.natCast_nonneg _), farL_length, if_pos hlt', hf, if_pos h, size_eq, hx, hk, obind, if_pos (by omega), hs1]
      rfl
    · rw [if_neg (by simpa [isTop] using h)] at h2
      refine Ev.step (fun k => ?_) h2
      simp only [spec_FarthestByPairs.l1]
      rw [if_pos hlt', if_pos (Int.natCast_nonneg _), farL_length, if_pos hlt', hf, if_neg h, hs1]
theorem far_l0' (x0 : ByteArray) (r : Nat) (hr : r ≤ 12) (hx : x0.data.toList.length = r) (s : St Nat) : ∀ (d n : Nat), n + d = 2 ^ r →
    Ev (fun k => spec_FarthestByPairs.l0 k x0 (farL (2 ^ r) s) (topU (fF s) 0 n) (farL (2 ^ r) s) ((2 ^ r : Nat) : Int) (n : Int)) (pickT r (isTop s (topU (fF s) 0 (2 ^ r))) (2 ^ r), topU (fF s) 0 (2 ^ r), true) := by
  intro d
  have h4096 := pow_le12 hr
  induction d with
  | zero =>
    intro n hd
    have hn : n = 2 ^ r := by omega
    have h2 := far_l1 x0 r hr hx s (topU (fF s) 0 (2 ^ r)) (2 ^ r) 0 (Nat.zero_add _)
    refine Ev.step (fun k => ?_) h2
    simp only [spec_FarthestByPairs.l0]
    rw [hn, if_neg (Int.lt_irrefl _), farL_length]
    rfl
  | succ d ih =>
    intro n hd
    have hlt : n < 2 ^ r := by omega
    have hlt' : (n : Int) < ((2 ^ r : Nat) : Int) := Int.ofNat_lt.2 hlt
    have hs1 : wrap64 ((n : Int) + 1) = ((n + 1 : Nat) : Int) := succ64 (by omega)
    refine Ev.step (fun k => ?_) (ih (n + 1) (by omega))
    simp only [spec_FarthestByPairs.l0]
    rw [if_pos hlt', if_pos (Int.natCast_nonneg _), farL_length, if_pos hlt', farL_rd s hlt, most_eq, obind, hs1]
    rfl
theorem tx_append (a b : List UInt8) : tx a ++ tx b = tx (a ++ b) := by
  apply ba_ext
  rw [ByteArray.data_append, Array.toList_append, tx_data, tx_data, tx_data]
theorem riAll_l0 (c : UInt8) : ∀ (n j k : Nat), n < k → n + j ≤ 1000000 → spec_riAll.l0 k (n : Int) (tx [c]) (tx (List.replicate j c)) = some (tx (List.replicate (j + n) c)) := by
  intro n
  induction n with
  | zero =>
    intro j k hk hj
    obtain ⟨k, rfl⟩ : ∃ m, k = m + 1 := ⟨k - 1, by omega⟩
    simp only [spec_riAll.l0]
    rw [if_neg (by omega)]
    rfl
  | succ n ih =>
    intro j k hk hj
    obtain ⟨k, rfl⟩ : ∃ m, k = m + 1 := ⟨k - 1, by omega⟩
    have h1 := ih (j + 1) k (by omega) (by omega)
    simp only [spec_riAll.l0]
    rw [if_pos (by omega), if_pos (by rw [tx_size, tx_size, List.length_replicate]; simp; omega), tx_append, show List.replicate j c ++ [c] = List.replicate (j + 1) c from by rw [List.replicate_succ'], show wrap64 (((n + 1 : Nat) : Int) - 1) = (n : Int) from by rw [w64 (by omega) (by omega)]; omega, h1]
    rw [show j + 1 + n = j + (n + 1) from by omega]
theorem riAll (c : UInt8) (r : Nat) (hr : r ≤ 1000) : Ev (fun k => spec_riAll.f k (r : Int) (⟨#[c]⟩ : ByteArray)) (tx (List.replicate r c)) := by
  refine Ev.of (k := r + 1) (fun k => spec_riAll.mono _ _ k) ?_
  have := riAll_l0 c r 0 (r + 1) (by omega) (by omega)
  rw [Nat.zero_add] at this
  exact this
theorem sign_zero (k : Nat) : sign 0 k = 48 := by simp [sign]
theorem stOf_zero (r : Nat) : stOf r 0 = List.replicate r 48 := by
  apply List.ext_getElem
  · simp [stOf_length]
  · intro i h1 h2
    simp [stOf, sign_zero]
theorem rep_ok (r : Nat) (c : UInt8) (h : okc c = true) : (List.replicate r c).all okc = true := by
  rw [List.all_eq_true]
  intro x hx
  rw [List.mem_replicate] at hx
  rw [hx.2]
  exact h
theorem twRings (a : Int) : spec_twRings.f a = some (decide ((2 : Int) ≤ a ∧ a ≤ 12)) := by
  unfold spec_twRings.f
  rw [l1In_eq]
  rfl
theorem state0 (r : Nat) (hr : r ≤ 60) : Ev (fun k => impl_state.f k (r : Int) 0) (tx (List.replicate r 48)) := by
  have := state r 0 hr (by decide)
  rw [stOf_zero] at this
  exact this
theorem inL_nat {a : Int} (h : (decide ((2 : Int) ≤ a ∧ a ≤ 12)) = true) : ∃ r : Nat, a = (r : Int) ∧ 2 ≤ r ∧ r ≤ 12 := by
  rw [decide_eq_true_eq] at h
  exact ⟨a.toNat, by omega, by omega, by omega⟩
theorem repeat_one (c : UInt8) : ∀ n, Lib.repeatL [c] n = List.replicate n c
  | 0 => rfl
  | n + 1 => by rw [Lib.repeatL, repeat_one c n]; rfl
theorem nodup_le : ∀ (l m : List Nat), l.Nodup → (∀ x ∈ l, x ∈ m) → l.length ≤ m.length
  | [], m, _, _ => Nat.zero_le _
  | a :: l, m, h, hs => by
    obtain ⟨h1, h2⟩ := List.nodup_cons.1 h
    have ha := hs a (by simp)
    have h3 := nodup_le l (m.erase a) h2 (fun x hx => by
      have hxa : x ≠ a := fun e => h1 (e ▸ hx)
      exact (List.mem_erase_of_ne hxa).2 (hs x (by simp [hx])))
    rw [List.length_erase_of_mem ha] at h3
    have hp : 0 < m.length := List.length_pos_of_mem ha
    rw [List.length_cons]
    omega
/-! ### The functions' answers -/
def inM (x : Int) : Bool := decide ((0 : Int) ≤ x ∧ x ≤ 6)
theorem near_bad {a : ByteArray} {x : Int} (h : (goodP a.data.toList && inM x) = false) : Ev (fun k => spec_NearByPairs.f k a x) (([] : List ByteArray), false) ∧ Ev (fun k => impl_NearByPairs.f k a x) (([] : List ByteArray), false) := by
  have hg := twGood a
  have stop : Ev (fun k => spec_NearByPairs.j0 k a x true) (([] : List ByteArray), false) := Ev.step (fun k => by simp only [spec_NearByPairs.j0]; rw [if_pos trivial]) (Ev.now _)
  cases h0 : goodP a.data.toList with
  | false =>
    rw [h0] at hg
    refine ⟨?_, ?_⟩
    · unfold spec_NearByPairs.f
      exact Ev.bind hg (Ev.congr (fun k => if_neg (by simp)) stop)
    · unfold impl_NearByPairs.f
      rw [isPaired, h0]
      exact Ev.congr (fun k => by rw [obind, if_neg (by simp)]) (Ev.now _)
  | true =>
    rw [h0] at hg h
    have h1 : decide ((0 : Int) ≤ x ∧ x ≤ 6) = false := by simpa [inM] using h
    refine ⟨?_, ?_⟩
    · unfold spec_NearByPairs.f
      rw [l1In_eq, h1]
      exact Ev.bind hg (Ev.congr (fun k => by rw [if_pos rfl, obind]; rfl) stop)
    · unfold impl_NearByPairs.f
      rw [isPaired, h0, in_eq, h1]
      exact Ev.congr (fun k => by rw [obind, if_pos rfl, obind, if_neg (by simp)]) (Ev.now _)
/-- What is known of a state and the search from it. -/
structure Run (a : ByteArray) (r : Nat) (s : St Nat) : Prop where
  good : goodP a.data.toList = true
  h2 : 2 ≤ r
  h12 : r ≤ 12
  len : a.data.toList.length = r
  lt : num a.data.toList < 2 ^ r
  fin : Final (nbr r) (num a.data.toList) s
  sp : Ev (fun k => spec_twFar.f k a) (farL (2 ^ r) s, wayL (2 ^ r) s)
  im : Ev (fun k => impl_search.f k a) (farL (2 ^ r) s, wayL (2 ^ r) s, qL r s)
theorem run_of {a : ByteArray} (h : goodP a.data.toList = true) : ∃ r s, Run a r s := by
  obtain ⟨r, s, h2, h12, hl, hn, hf, e1, e2⟩ := one_run h
  exact ⟨r, s, h, h2, h12, hl, hn, hf, e1, e2⟩
variable {a : ByteArray} {r : Nat} {s : St Nat}
theorem near_run (U : Run a r s) {x : Int} (hx : inM x = true) : Ev (fun k => spec_NearByPairs.f k a x) (pickT r (nearP s x) (2 ^ r), true) ∧ Ev (fun k => impl_NearByPairs.f k a x) (pickT r (nearP s x) (2 ^ r), true) := by
  have hg := twGood a
  rw [U.good] at hg
  have h1 : decide ((0 : Int) ≤ x ∧ x ≤ 6) = true := hx
  refine ⟨?_, ?_⟩
  · unfold spec_NearByPairs.f
    rw [l1In_eq, h1]
    refine Ev.bind hg (Ev.congr (fun k => by rw [if_pos rfl, obind]) ?_)
    refine Ev.step (fun k => by simp only [spec_NearByPairs.j0]; rw [if_neg (by simp)]) (Ev.bind U.sp ?_)
    rw [farL_length]
    exact near_l0 a r U.h12 U.len s x (2 ^ r) 0 (Nat.zero_add _)
  · unfold impl_NearByPairs.f
    rw [isPaired, U.good, in_eq, h1]
    refine Ev.congr (fun k => by rw [obind, if_pos rfl, obind, if_pos rfl]) (Ev.bind U.im ?_)
    rw [size_eq, U.len]
    refine Ev.bind (withNums (impl_NearByPairs.take (farL (2 ^ r) s) x) (nearP s x) r U.h12 (fun n hn => ?_)) (Ev.now _)
    refine Ev.congr (fun k => ?_) (Ev.now _)
    unfold impl_NearByPairs.take
    rw [if_pos (Int.natCast_nonneg _), farL_length, if_pos (Int.ofNat_lt.2 hn), farL_rd s hn]
    rfl
def topR (r : Nat) (s : St Nat) : Int := topU (fF s) 0 (2 ^ r)
theorem far_bad (h : goodP a.data.toList = false) : Ev (fun k => spec_FarthestByPairs.f k a) (([] : List ByteArray), (0 : Int), false) ∧ Ev (fun k => impl_FarthestByPairs.f k a) (([] : List ByteArray), (0 : Int), false) := by
  have hg := twGood a
  rw [h] at hg
  refine ⟨?_, ?_⟩
  · unfold spec_FarthestByPairs.f
    exact Ev.bind hg (Ev.congr (fun k => if_neg (by simp)) (Ev.now _))
  · unfold impl_FarthestByPairs.f
    rw [isPaired, h]
    exact Ev.congr (fun k => by rw [obind, if_neg (by simp)]) (Ev.now _)
theorem far_run' (U : Run a r s) : Ev (fun k => spec_FarthestByPairs.f k a) (pickT r (isTop s (topR r s)) (2 ^ r), topR r s, true) ∧ Ev (fun k => impl_FarthestByPairs.f k a) (pickT r (isTop s (topR r s)) (2 ^ r), topR r s, true) := by
  have hg := twGood a
  rw [U.good] at hg
  have h4096 := pow_le12 U.h12
  have hp : 0 < 2 ^ r := Nat.two_pow_pos r
  have hs0 : 0 ≤ fF s (num a.data.toList) := by
    obtain ⟨m, hm, _⟩ := U.fin.least _ 0 .nil
    unfold fF
    rw [hm]
    exact Int.natCast_nonneg _
  have hsame := topU_same (fF s) (2 ^ r) (num a.data.toList) U.lt hs0
  unfold topR
  refine ⟨?_, ?_⟩
  · unfold spec_FarthestByPairs.f
    refine Ev.bind hg (Ev.congr (fun k => if_pos rfl) (Ev.bind U.sp ?_))
    rw [farL_length]
    exact far_l0' a r U.h12 U.len s (2 ^ r) 0 (Nat.zero_add _)
  · unfold impl_FarthestByPairs.f
    rw [isPaired, U.good, hsame]
    refine Ev.congr (fun k => by rw [obind, if_pos rfl]) (Ev.bind U.im (Ev.bind (max_run (2 ^ r) hp h4096 s) ?_))
    rw [size_eq, U.len]
    refine Ev.bind (withNums (impl_FarthestByPairs.take (farL (2 ^ r) s) (topU (fF s) (fF s 0) (2 ^ r))) (isTop s (topU (fF s) (fF s 0) (2 ^ r))) r U.h12 (fun n hn => ?_)) (Ev.now _)
    refine Ev.congr (fun k => ?_) (Ev.now _)
    unfold impl_FarthestByPairs.take
    rw [if_pos (Int.natCast_nonneg _), farL_length, if_pos (Int.ofNat_lt.2 hn), farL_rd s hn]
    rfl
theorem numOf {m : Nat} (U : Run a r s) (hm : m < 2 ^ r) : Ev (fun k => impl_NumberOfState.f k (tx (stOf r m))) ((m : Int), true) := by
  have hst := st_tx r m (by have := U.h2; omega) (by have := U.h12; omega)
  have hn := number (tx (stOf r m)) hst
  rw [tx_data, num_stOf r m hm] at hn
  unfold impl_NumberOfState.f
  rw [isState, hst]
  exact Ev.congr (fun k => by rw [obind, if_pos rfl]) (Ev.bind (f := fun _ t => some (t, true)) hn (Ev.now _))
theorem few_run (U : Run a r s) {m : Nat} (hm : m < 2 ^ r) : Ev (fun k => impl_FewestPairMoves.f k a (tx (stOf r m))) (fz (s.far m), true) := by
  have h2 := U.h2
  have h12 := U.h12
  have hst := st_tx r m (by omega) (by omega)
  have hn := number (tx (stOf r m)) hst
  rw [tx_data, num_stOf r m hm] at hn
  rw [tx_data] at hst
  have ht : twoP a (tx (stOf r m)) = true := by
    unfold twoP
    rw [U.good, tx_data, U.len, stOf_length, decide_eq_true rfl]
    unfold goodP
    rw [hst, stOf_length, decide_eq_true ⟨h2, h12⟩]
    rfl
  unfold impl_FewestPairMoves.f
  rw [arePaired, ht]
  refine Ev.congr (fun k => by rw [obind, if_pos rfl]) (Ev.bind U.im (Ev.bind hn ?_))
  exact Ev.congr (fun k => by rw [if_pos (Int.natCast_nonneg _), farL_length, if_pos (Int.ofNat_lt.2 hm), farL_rd s hm]) (Ev.now _)

/-! ### What is picked -/
theorem pick_at (r : Nat) (p : Nat → Bool) (n i : Nat) (hi : i < (pickU p n).length) : rdOf ByteArray.empty (pickT r p n) (i : Int) = tx (stOf r (pickU p n)[i]) := by
  show (pickT r p n).getD i ByteArray.empty = _
  unfold pickT
  rw [List.getD_eq_getElem?_getD, List.getElem?_map, List.getElem?_eq_getElem hi]
  rfl
theorem pickT_length (r : Nat) (p : Nat → Bool) (n : Nat) : (pickT r p n).length = (pickU p n).length := by unfold pickT; rw [List.length_map]
theorem pick_mem {p : Nat → Bool} {n m : Nat} : m ∈ pickU p n ↔ m < n ∧ p m = true := by
  unfold pickU
  rw [List.mem_filter, List.mem_range]
theorem pick_sorted (p : Nat → Bool) (n : Nat) : (pickU p n).Pairwise (· < ·) := List.Pairwise.filter p List.pairwise_lt_range
theorem pick_nodup (p : Nat → Bool) (n : Nat) : (pickU p n).Nodup := List.Pairwise.imp (fun h => Nat.ne_of_lt h) (pick_sorted p n)
theorem far_self (U : Run a r s) : s.far (num a.data.toList) = some 0 := by
  obtain ⟨m, hm, h0⟩ := U.fin.least _ 0 .nil
  rw [hm]
  congr 1
  omega
theorem far_is (U : Run a r s) {m : Nat} (h : s.far m = some 0) : m = num a.data.toList := by
  have := U.fin.path m 0 h
  cases this
  rfl
theorem all_far (U : Run a r s) {m : Nat} (hm : m < 2 ^ r) : ∃ v : Nat, s.far m = some v := far_some U.h2 U.lt U.fin hm
theorem fz_nat (v : Nat) : fz (some v) = (v : Int) := rfl
theorem top_facts (U : Run a r s) : 1 ≤ topR r s ∧ (∃ m, m < 2 ^ r ∧ fz (s.far m) = topR r s) := by
  have h4 : 4 ≤ 2 ^ r := Nat.le_trans (by decide : 4 ≤ 2 ^ 2) (Nat.pow_le_pow_right (by decide) U.h2)
  obtain ⟨t1, t2, t3⟩ := topU_ge (fF s) 0 (2 ^ r)
  have h1 : 1 ≤ topR r s := by
    obtain ⟨m, hm, hne⟩ : ∃ m, m < 2 ^ r ∧ m ≠ num a.data.toList := by
      by_cases h : num a.data.toList = 0
      · exact ⟨1, by omega, by omega⟩
      · exact ⟨0, by omega, fun e => h e.symm⟩
    obtain ⟨v, hv⟩ := all_far U hm
    have hv0 : v ≠ 0 := fun e => hne (far_is U (by rw [hv, e]))
    have := t2 m hm
    unfold fF at this
    rw [hv, fz_nat] at this
    unfold topR
    unfold fF
    omega
  refine ⟨h1, ?_⟩
  rcases t3 with h | ⟨m, hm, h⟩
  · unfold topR at h1
    omega
  · exact ⟨m, hm, h.symm⟩
theorem yTexts (l : List ByteArray) (hl : l.length ≤ 1048576) : Ev (fun k => laws_yTexts.f k l l) true := by
  unfold laws_yTexts.f
  refine Ev.congr (fun k => if_pos rfl) ?_
  have go : ∀ d i, i + d = l.length → Ev (fun k => laws_yTexts.l0 k l l (l.length : Int) (i : Int)) true := by
    intro d
    induction d with
    | zero =>
      intro i hi
      refine Ev.step (f := fun _ => some true) (fun k => ?_) (Ev.now _)
      simp only [laws_yTexts.l0]
      rw [if_neg (fun h => by have := Int.ofNat_lt.1 h; omega)]
    | succ d ih =>
      intro i hi
      have hil : (i : Int) < (l.length : Int) := Int.ofNat_lt.2 (by omega)
      refine Ev.step (fun k => ?_) (ih (i + 1) (by omega))
      simp only [laws_yTexts.l0]
      rw [if_pos hil, if_pos (Int.natCast_nonneg _), if_pos hil, if_pos hil, if_pos trivial, succ64 (by omega)]
  exact go l.length 0 (Nat.zero_add _)
theorem yText (l : List ByteArray) (hl : l.length ≤ 1048576) (a : ByteArray) (j : Nat) (hj : j < l.length) (he : l[j] = a) : Ev (fun k => laws_yText.f k l a) true := by
  unfold laws_yText.f
  have go : ∀ d i, i + d = j → Ev (fun k => laws_yText.l0 k a l (l.length : Int) (i : Int)) true := by
    intro d
    induction d with
    | zero =>
      intro i hi
      obtain rfl : i = j := by omega
      have hil : (i : Int) < (l.length : Int) := Int.ofNat_lt.2 hj
      have hr : rdOf ByteArray.empty l (i : Int) = a := by
        show l.getD i ByteArray.empty = a
        rw [List.getD_eq_getElem?_getD, List.getElem?_eq_getElem hj, he]
        rfl
      refine Ev.step (f := fun _ => some true) (fun k => ?_) (Ev.now _)
      simp only [laws_yText.l0]
      rw [if_pos hil, if_pos (Int.natCast_nonneg _), if_pos hil, hr, if_pos rfl]
    | succ d ih =>
      intro i hi
      have hil : (i : Int) < (l.length : Int) := Int.ofNat_lt.2 (by omega)
      by_cases c : (rdOf ByteArray.empty l (i : Int)).toList = a.toList
      · refine Ev.step (f := fun _ => some true) (fun k => ?_) (Ev.now _)
        simp only [laws_yText.l0]
        rw [if_pos hil, if_pos (Int.natCast_nonneg _), if_pos hil, if_pos c]
      · refine Ev.step (fun k => ?_) (ih (i + 1) (by omega))
        simp only [laws_yText.l0]
        rw [if_pos hil, if_pos (Int.natCast_nonneg _), if_pos hil, if_neg c, succ64 (by omega)]
  exact go j 0 (Nat.zero_add _)

/-! ### Counts, what is saved, moves to clear -/
def FR (r : Nat) : Nat := num (List.replicate r (49 : UInt8))
theorem clear_table : ∀ r, 2 ≤ r → r ≤ 12 → dist8 (FR r) = 2 ^ (r - 1) - (if r % 2 = 0 then 1 else 0) ∧ dist8 (FR r) + 1 ≤ FR r ∧ 1 ≤ dist8 (FR r) := by
  intro r h1 h2
  have h : r = 2 ∨ r = 3 ∨ r = 4 ∨ r = 5 ∨ r = 6 ∨ r = 7 ∨ r = 8 ∨ r = 9 ∨ r = 10 ∨ r = 11 ∨ r = 12 := by omega
  rcases h with rfl | rfl | rfl | rfl | rfl | rfl | rfl | rfl | rfl | rfl | rfl <;> decide +kernel
/-- From nought. -/
theorem zero_run (r : Nat) (h2 : 2 ≤ r) (hr : r ≤ 12) : ∃ s : St Nat, (∀ m : Nat, m < 2 ^ r → rd (farL (2 ^ r) s) (m : Int) = ((dist8 m : Nat) : Int)) ∧ Ev (fun k => spec_twFar.f k (tx (List.replicate r 48))) (farL (2 ^ r) s, wayL (2 ^ r) s) ∧ Ev (fun k => impl_search.f k (tx (List.replicate r 48))) (farL (2 ^ r) s, wayL (2 ^ r) s, qL r s) := by
  obtain ⟨s, hf, _, e1, e2⟩ := far_run (List.replicate r 48) (by simpa using h2) (by simpa using hr) (rep_ok r 48 (by decide))
  have h0 : num (List.replicate r (48 : UInt8)) = 0 := by
    rw [← stOf_zero]
    exact num_stOf r 0 (Nat.two_pow_pos r)
  rw [List.length_replicate] at e1 e2 hf
  rw [h0] at hf
  refine ⟨s, fun m hm => ?_, e1, e2⟩
  rw [farL_rd s hm, far_zero h2 hf hm]
  rfl
theorem count_l0 (l : List Int) (hl : l.length ≤ 4096) (x : Int) : ∀ (d i s : Nat), i + d = l.length → s ≤ i → Ev (fun k => spec_CountByPairs.l0 k x (s : Int) l (l.length : Int) (i : Int)) (((s + (List.range' i d).countP (fun (j : Nat) => rd l (j : Int) == x) : Nat) : Int), true) ∧ Ev (fun k => impl_CountByPairs.l0 k x (s : Int) l (l.length : Int) (i : Int)) (((s + (List.range' i d).countP (fun (j : Nat) => rd l (j : Int) == x) : Nat) : Int), true) := by
  intro d
  induction d with
  | zero =>
    intro i s hi hs
    have hn : ¬ (i : Int) < (l.length : Int) := by omega
    refine ⟨Ev.step (f := fun _ => some ((s : Int), true)) (fun k => ?_) (Ev.now _), Ev.step (f := fun _ => some ((s : Int), true)) (fun k => ?_) (Ev.now _)⟩
    · simp only [spec_CountByPairs.l0]; rw [if_neg hn]
    · simp only [impl_CountByPairs.l0]; rw [if_neg hn]
  | succ d ih =>
    intro i s hi hs
    have hlt : (i : Int) < (l.length : Int) := by omega
    have hi1 : wrap64 ((i : Int) + 1) = ((i + 1 : Nat) : Int) := succ64 (by omega)
    rw [List.range'_succ, List.countP_cons]
    by_cases h : rd l (i : Int) = x
    · obtain ⟨h1, h2⟩ := ih (i + 1) (s + 1) (by omega) (by omega)
      have hs1 : wrap64 ((s : Int) + 1) = ((s + 1 : Nat) : Int) := succ64 (by omega)
      rw [if_pos (beq_iff_eq.2 h), show s + ((List.range' (i + 1) d).countP (fun (j : Nat) => rd l (j : Int) == x) + 1) = s + 1 + (List.range' (i + 1) d).countP (fun (j : Nat) => rd l (j : Int) == x) by omega]
      refine ⟨Ev.step (fun k => ?_) h1, Ev.step (fun k => ?_) h2⟩
      · simp only [spec_CountByPairs.l0]; rw [if_pos hlt, if_pos (by omega), if_pos hlt, if_pos h, hi1, hs1]
      · simp only [impl_CountByPairs.l0]; rw [if_pos hlt, if_pos (by omega), if_pos hlt, if_pos h, hi1, hs1]
    · obtain ⟨h1, h2⟩ := ih (i + 1) s (by omega) (by omega)
      rw [if_neg (fun e => h (beq_iff_eq.1 e)), Nat.add_zero]
      refine ⟨Ev.step (fun k => ?_) h1, Ev.step (fun k => ?_) h2⟩
      · simp only [spec_CountByPairs.l0]; rw [if_pos hlt, if_pos (by omega), if_pos hlt, if_neg h, hi1]
      · simp only [impl_CountByPairs.l0]; rw [if_pos hlt, if_pos (by omega), if_pos hlt, if_neg h, hi1]
theorem dist8_zero {m : Nat} (h : dist8 m = 0) : m = 0 := by
  have := dist8_or m
  omega
theorem count_spec (a0 a1 : Int) : ∃ v : Int × Bool, Ev (fun k => spec_CountByPairs.f k a0 a1) v ∧ Ev (fun k => impl_CountByPairs.f k a0 a1) v ∧ (v.2 = true → 0 ≤ v.1 ∧ (a1 = 0 → v.1 = 1)) := by
  have stop : ∀ x : Bool, x = true → Ev (fun k => spec_CountByPairs.j0 k a0 a1 x) ((0 : Int), false) ∧ Ev (fun k => impl_CountByPairs.j0 k a0 a1 x) ((0 : Int), false) := by
    intro x hx
    subst hx
    exact ⟨Ev.step (fun k => by simp only [spec_CountByPairs.j0]; rw [if_pos trivial]) (Ev.now _), Ev.step (fun k => by simp only [impl_CountByPairs.j0]; rw [if_pos trivial]) (Ev.now _)⟩
  cases h : decide ((2 : Int) ≤ a0 ∧ a0 ≤ 12) with
  | false =>
    refine ⟨((0 : Int), false), ?_, ?_, fun h => by cases h⟩
    · unfold spec_CountByPairs.f
      rw [twRings, h]
      exact Ev.congr (fun k => by rw [obind, if_neg (by simp)]) (stop true rfl).1
    · unfold impl_CountByPairs.f
      rw [in_eq, h]
      exact Ev.congr (fun k => by rw [obind, if_neg (by simp)]) (stop true rfl).2
  | true =>
    cases h1 : decide ((0 : Int) ≤ a1 ∧ a1 ≤ 10000) with
    | false =>
      refine ⟨((0 : Int), false), ?_, ?_, fun h => by cases h⟩
      · unfold spec_CountByPairs.f
        rw [twRings, h, l1In_eq, h1]
        exact Ev.congr (fun k => by rw [obind, if_pos rfl, obind]) (stop (!false) rfl).1
      · unfold impl_CountByPairs.f
        rw [in_eq, h, in_eq, h1]
        exact Ev.congr (fun k => by rw [obind, if_pos rfl, obind]) (stop (!false) rfl).2
    | true =>
      obtain ⟨r, rfl, h2, h12⟩ := inL_nat h
      obtain ⟨s, hd, e1, e2⟩ := zero_run r h2 h12
      have h4096 := pow_le12 h12
      have c := count_l0 (farL (2 ^ r) s) (by rw [farL_length]; exact h4096) a1 (farL (2 ^ r) s).length 0 0 (Nat.zero_add _) (Nat.le_refl _)
      rw [Nat.zero_add] at c
      obtain ⟨c1, c2⟩ := c
      refine ⟨((((List.range' 0 (farL (2 ^ r) s).length).countP (fun (j : Nat) => rd (farL (2 ^ r) s) (j : Int) == a1) : Nat) : Int), true), ?_, ?_, fun _ => ⟨Int.natCast_nonneg _, fun e => ?_⟩⟩
      · unfold spec_CountByPairs.f
        rw [twRings, h, l1In_eq, h1]
        refine Ev.congr (fun k => by rw [obind, if_pos rfl, obind]) ?_
        refine Ev.step (fun k => by simp only [spec_CountByPairs.j0]; rw [if_neg (by simp)]) (Ev.bind (riAll 48 r (by omega)) (Ev.bind e1 c1))
      · unfold impl_CountByPairs.f
        rw [in_eq, h, in_eq, h1]
        refine Ev.congr (fun k => by rw [obind, if_pos rfl, obind]) ?_
        refine Ev.step (fun k => by simp only [impl_CountByPairs.j0]; rw [if_neg (by simp)]) (Ev.bind (state0 r (by omega)) (Ev.bind e2 c2))
      · obtain ⟨n, hn⟩ : ∃ n, 2 ^ r = n + 1 := ⟨2 ^ r - 1, by have := Nat.two_pow_pos r; omega⟩
        have e0 : (List.range' 0 (farL (2 ^ r) s).length).countP (fun (j : Nat) => rd (farL (2 ^ r) s) (j : Int) == a1) = 1 := by
          rw [farL_length]
          have hd' := hd
          generalize farL (2 ^ r) s = l at hd' ⊢
          rw [hn] at hd' ⊢
          rw [List.range'_succ, List.countP_cons, if_pos (beq_iff_eq.2 (by rw [hd' 0 (by omega), e]; rfl))]
          have : (List.range' (0 + 1) n).countP (fun (j : Nat) => rd l (j : Int) == a1) = 0 := by
            rw [List.countP_eq_zero]
            intro j hj hc
            rw [List.mem_range'_1] at hj
            rw [beq_iff_eq, hd' j (by omega), e] at hc
            have := dist8_zero (Int.ofNat.inj hc)
            omega
          rw [this]
        show (((List.range' 0 (farL (2 ^ r) s).length).countP (fun (j : Nat) => rd (farL (2 ^ r) s) (j : Int) == a1) : Nat) : Int) = 1
        rw [e0]
        rfl
theorem most_l0 (l : List Int) (hl : l.length ≤ 4096) (hd : ∀ j : Nat, j < l.length → rd l (j : Int) = ((dist8 j : Nat) : Int)) : ∀ (d i : Nat) (s : Int), i + d = l.length → ∃ v : Int, Ev (fun k => spec_MostSaved.l0 k s l (l.length : Int) (i : Int)) (v, true) ∧ Ev (fun k => impl_MostSaved.l0 k s l (l.length : Int) (i : Int)) (v, true) ∧ s ≤ v ∧ ∀ j : Nat, i ≤ j → j < l.length → (j : Int) - ((dist8 j : Nat) : Int) ≤ v := by
  intro d
  induction d with
  | zero =>
    intro i s hi
    have hn : ¬ (i : Int) < (l.length : Int) := by omega
    refine ⟨s, Ev.step (f := fun _ => some (s, true)) (fun k => ?_) (Ev.now _), Ev.step (f := fun _ => some (s, true)) (fun k => ?_) (Ev.now _), Int.le_refl _, fun j h1 h2 => by omega⟩
    · simp only [spec_MostSaved.l0]; rw [if_neg hn]
    · simp only [impl_MostSaved.l0]; rw [if_neg hn]
  | succ d ih =>
    intro i s hi
    have hlt : (i : Int) < (l.length : Int) := by omega
    have hi1 : wrap64 ((i : Int) + 1) = ((i + 1 : Nat) : Int) := succ64 (by omega)
    obtain ⟨v, h1, h2, h3, h4⟩ := ih (i + 1) (mx s (wrap64 ((i : Int) - rd l (i : Int)))) (by omega)
    have hdi : dist8 i ≤ 6 * i + 5 := by
      have := dist8_or i
      omega
    have hw : wrap64 ((i : Int) - rd l (i : Int)) = (i : Int) - ((dist8 i : Nat) : Int) := by rw [hd i (by omega), w64 (by omega) (by omega)]
    obtain ⟨m1, m2, _⟩ := mx_le s (wrap64 ((i : Int) - rd l (i : Int)))
    rw [hw] at m1 m2 h3
    refine ⟨v, Ev.step (fun k => ?_) h1, Ev.step (fun k => ?_) h2, Int.le_trans m1 h3, fun j hj1 hj2 => ?_⟩
    · simp only [spec_MostSaved.l0]; rw [if_pos hlt, if_pos (by omega), if_pos hlt, most_eq, obind, hi1]
    · simp only [impl_MostSaved.l0]; rw [if_pos hlt, if_pos (by omega), if_pos hlt, hi1]
    · by_cases e : j = i
      · rw [e]
        exact Int.le_trans m2 h3
      · exact h4 j (by omega) hj2
/-- What is saved at most, the moves to clear, by pairs and by rings. -/
theorem clear_all (n : Int) : (∃ v c : Int × Bool, v.2 = false ∧ c.2 = false ∧ (Ev (fun k => spec_MostSaved.f k n) v ∧ Ev (fun k => impl_MostSaved.f k n) v) ∧ (Ev (fun k => spec_PairMovesToClear.f k n) c ∧ Ev (fun k => impl_PairMovesToClear.f k n) c)) ∨
    (∃ (r : Nat) (v : Int), n = (r : Int) ∧ 2 ≤ r ∧ r ≤ 12 ∧ (Ev (fun k => spec_MostSaved.f k n) (v, true) ∧ Ev (fun k => impl_MostSaved.f k n) (v, true)) ∧ (Ev (fun k => spec_PairMovesToClear.f k n) (((dist8 (FR r) : Nat) : Int), true) ∧ Ev (fun k => impl_PairMovesToClear.f k n) (((dist8 (FR r) : Nat) : Int), true)) ∧ Ev (fun k => impl_MovesToClear.f k n) (((FR r : Nat) : Int), true) ∧ ((FR r : Nat) : Int) - ((dist8 (FR r) : Nat) : Int) ≤ v) := by
  cases h : decide ((2 : Int) ≤ n ∧ n ≤ 12) with
  | false =>
    left
    refine ⟨((0 : Int), false), ((0 : Int), false), rfl, rfl, ⟨?_, ?_⟩, ⟨?_, ?_⟩⟩
    · unfold spec_MostSaved.f
      rw [twRings, h]
      exact Ev.congr (fun k => by rw [obind, if_neg (by simp)]) (Ev.now _)
    · unfold impl_MostSaved.f
      rw [in_eq, h]
      exact Ev.congr (fun k => by rw [obind, if_neg (by simp)]) (Ev.now _)
    · unfold spec_PairMovesToClear.f
      rw [twRings, h]
      exact Ev.congr (fun k => by rw [obind, if_neg (by simp)]) (Ev.now _)
    · unfold impl_PairMovesToClear.f
      rw [in_eq, h]
      exact Ev.congr (fun k => by rw [obind, if_neg (by simp)]) (Ev.now _)
  | true =>
    right
    obtain ⟨r, rfl, h2, h12⟩ := inL_nat h
    obtain ⟨s, hd, e1, e2⟩ := zero_run r h2 h12
    have h4096 := pow_le12 h12
    have hst : isSt (tx (List.replicate r 49)).data.toList = true := by
      rw [tx_data]
      have := rep_ok r 49 (by decide)
      unfold isSt
      rw [this, List.length_replicate, decide_eq_true (by omega : 1 ≤ r), decide_eq_true (by omega : r ≤ 20)]
      rfl
    have hlt : FR r < 2 ^ r := by
      have := num_lt (List.replicate r (49 : UInt8))
      rw [List.length_replicate] at this
      exact this
    have n1 := riNumber (tx (List.replicate r 49)) (by rw [tx_data, List.length_replicate]; omega)
    have n2 := number (tx (List.replicate r 49)) hst
    rw [tx_data] at n1 n2
    have n1 : Ev (fun k => spec_riNumber.f k (tx (List.replicate r 49))) ((FR r : Nat) : Int) := n1
    have n2 : Ev (fun k => impl_number.f k (tx (List.replicate r 49))) ((FR r : Nat) : Int) := n2
    have hall : impl_AllOn.f (r : Int) = some (tx (List.replicate r 49), true) := by
      unfold impl_AllOn.f strings_Repeat.f
      rw [in_eq, obind, if_pos (by simp; omega), if_pos ⟨by omega, by omega, by decide⟩, obind]
      have e : ((⟨#[49]⟩ : ByteArray)).data.toList = [49] := rfl
      rw [e, repeat_one]
      rfl
    have hm : Ev (fun k => impl_MovesToClear.f k (r : Int)) (((FR r : Nat) : Int), true) := by
      unfold impl_MovesToClear.f
      rw [hall]
      exact Ev.congr (fun k => by rw [obind, if_pos rfl]) (Ev.bind (f := fun _ t => some (t, true)) n2 (Ev.now _))
    obtain ⟨v, c1, c2, c3, c4⟩ := most_l0 (farL (2 ^ r) s) (by rw [farL_length]; exact h4096) (fun j hj => hd j (by rw [farL_length] at hj; exact hj)) (farL (2 ^ r) s).length 0 0 (Nat.zero_add _)
    refine ⟨r, v, rfl, h2, h12, ⟨?_, ?_⟩, ⟨?_, ?_⟩, hm, c4 (FR r) (Nat.zero_le _) (by rw [farL_length]; exact hlt)⟩
    · unfold spec_MostSaved.f
      rw [twRings, h]
      exact Ev.congr (fun k => by rw [obind, if_pos rfl]) (Ev.bind (riAll 48 r (by omega)) (Ev.bind e1 c1))
    · unfold impl_MostSaved.f
      rw [in_eq, h]
      exact Ev.congr (fun k => by rw [obind, if_pos rfl]) (Ev.bind (state0 r (by omega)) (Ev.bind e2 c2))
    · unfold spec_PairMovesToClear.f
      rw [twRings, h]
      refine Ev.congr (fun k => by rw [obind, if_pos rfl]) (Ev.bind (riAll 48 r (by omega)) (Ev.bind e1 (Ev.bind (riAll 49 r (by omega)) (Ev.bind n1 ?_))))
      refine Ev.congr (fun k => by rw [if_pos (Int.natCast_nonneg _), farL_length, if_pos (Int.ofNat_lt.2 hlt), hd _ hlt]) (Ev.now _)
    · unfold impl_PairMovesToClear.f
      rw [in_eq, h]
      refine Ev.congr (fun k => by rw [obind, if_pos rfl]) (Ev.bind (state0 r (by omega)) (Ev.bind e2 (Ev.bind hm ?_)))
      refine Ev.congr (fun k => by rw [if_pos (Int.natCast_nonneg _), farL_length, if_pos (Int.ofNat_lt.2 hlt), hd _ hlt]) (Ev.now _)

/-! ### The law, from its end -/
theorem law_j5 (z : List Int) (rg ct nn : Int) (hz1 : spec_DrawCountByPairs.f z = some (rg, ct)) (hz2 : spec_DrawMostSaved.f z = some nn) : Ev (fun k => laws_FnPairsNear.j5 k z) true := by
  obtain ⟨c, s1, i1, hc⟩ := count_spec rg ct
  have tail : ∀ (sv cl : Int × Bool), sv.2 = cl.2 → (Ev (fun k => spec_MostSaved.f k nn) sv ∧ Ev (fun k => impl_MostSaved.f k nn) sv) → (Ev (fun k => spec_PairMovesToClear.f k nn) cl ∧ Ev (fun k => impl_PairMovesToClear.f k nn) cl) → Ev (fun k => laws_FnPairsNear.j7 k nn sv.1 sv.2 cl.1 false) true → Ev (fun k => laws_FnPairsNear.j5 k z) true := by
    intro sv cl he hs hcl hj
    have h6 : Ev (fun k => laws_FnPairsNear.j6 k ct c.1 c.2 nn sv.1 sv.2 cl.1 false) true := by
      by_cases h2 : c.2 = true
      · obtain ⟨p1, p2⟩ := hc h2
        by_cases h3 : ct = 0
        · have hb : (c.1 != 1) = false := by rw [p2 h3]; rfl
          refine Ev.step (fun k => ?_) hj
          simp only [laws_FnPairsNear.j6]
          rw [if_neg Bool.false_ne_true, if_pos h2, if_neg (show ¬ c.1 < 0 by omega), if_pos h3, hb]
        · refine Ev.step (fun k => ?_) hj
          simp only [laws_FnPairsNear.j6]
          rw [if_neg Bool.false_ne_true, if_pos h2, if_neg (show ¬ c.1 < 0 by omega), if_neg h3]
      · refine Ev.step (fun k => ?_) hj
        simp only [laws_FnPairsNear.j6]
        rw [if_neg Bool.false_ne_true, if_neg h2]
    have e1 : (c.2 != c.2) = false := bne_self_eq_false _
    have e2 : (sv.2 != sv.2) = false := bne_self_eq_false _
    have e3 : (cl.2 != cl.2) = false := bne_self_eq_false _
    have e4 : (cl.2 != sv.2) = false := by rw [he]; exact bne_self_eq_false _
    obtain ⟨K1, g1⟩ := i1
    obtain ⟨K2, g2⟩ := s1
    obtain ⟨K3, g3⟩ := hs.2
    obtain ⟨K4, g4⟩ := hs.1
    obtain ⟨K5, g5⟩ := hcl.2
    obtain ⟨K6, g6⟩ := hcl.1
    obtain ⟨K7, g7⟩ := h6
    refine ⟨max (max (max K1 K2) (max K3 K4)) (max (max K5 K6) K7) + 1, fun n hn => ?_⟩
    obtain ⟨k, rfl⟩ : ∃ k, n = k + 1 := ⟨n - 1, by omega⟩
    have f1 := g1 k (by omega)
    have f2 := g2 k (by omega)
    have f3 := g3 k (by omega)
    have f4 := g4 k (by omega)
    have f5 := g5 k (by omega)
    have f6 := g6 k (by omega)
    have f7 := g7 k (by omega)
    simp only at f1 f2 f3 f4 f5 f6 f7
    show laws_FnPairsNear.j5 (k + 1) z = _
    simp only [laws_FnPairsNear.j5]
    rw [hz1, obind, f1, obind, f2, obind, hz2, obind, f3, obind, f4, obind, f5, obind, f6, obind, e1, if_neg Bool.false_ne_true, if_pos rfl, e2, if_neg Bool.false_ne_true, if_pos rfl, e3, if_neg Bool.false_ne_true, if_pos rfl, e4]
    exact f7
  rcases clear_all nn with ⟨v, cl, h1, h2, h3, h4⟩ | ⟨r, v, rfl, h2, h12, h3, h4, h5, h6⟩
  · refine tail v cl (by rw [h1, h2]) h3 h4 ?_
    refine Ev.step (f := fun _ => some true) (fun k => ?_) (Ev.now _)
    simp only [laws_FnPairsNear.j7]
    rw [if_neg Bool.false_ne_true, h1, if_neg Bool.false_ne_true]
  · refine tail (v, true) (((dist8 (FR r) : Nat) : Int), true) rfl h3 h4 ?_
    obtain ⟨t1, t2, t3⟩ := clear_table r h2 h12
    have hF : FR r < 4096 := by
      have := num_lt (List.replicate r (49 : UInt8))
      rw [List.length_replicate] at this
      exact Nat.lt_of_lt_of_le this (pow_le12 h12)
    have h8 : Ev (fun k => laws_FnPairsNear.j8 k (r : Int) ((dist8 (FR r) : Nat) : Int) false) true := by
      refine Ev.step (f := fun _ => some true) (fun k => ?_) (Ev.now _)
      simp only [laws_FnPairsNear.j8]
      have e1 : wrap64 ((r : Int) - 1) = ((r - 1 : Nat) : Int) := by rw [w64 (by omega) (by omega)]; omega
      have e2 : shl .i64 1 ((r - 1 : Nat) : Int) = ((2 ^ (r - 1) : Nat) : Int) := shl_one (r - 1) (by omega)
      have hp : 2 ^ (r - 1) ≤ 4096 := Nat.le_trans (Nat.pow_le_pow_right (by decide) (by omega : r - 1 ≤ r)) (pow_le12 h12)
      have hp1 : 1 ≤ 2 ^ (r - 1) := Nat.one_le_two_pow
      have e3 : Int.tmod (r : Int) 2 = ((r % 2 : Nat) : Int) := rfl
      rw [if_neg Bool.false_ne_true, e1, if_pos (Int.natCast_nonneg _), e3, e2]
      by_cases hr : r % 2 = 0
      · rw [if_pos hr] at t1
        rw [if_pos (by rw [hr]; rfl), w64 (by omega) (by omega)]
        congr 1
        rw [beq_iff_eq]
        omega
      · rw [if_neg hr] at t1
        rw [if_neg (show ¬ ((r % 2 : Nat) : Int) = 0 from fun h => hr (by omega))]
        congr 1
        rw [beq_iff_eq]
        omega
    obtain ⟨K1, g1⟩ := h5
    obtain ⟨K2, g2⟩ := h8
    refine ⟨max K1 K2 + 1, fun n hn => ?_⟩
    obtain ⟨k, rfl⟩ : ∃ k, n = k + 1 := ⟨n - 1, by omega⟩
    have f1 := g1 k (by omega)
    have f2 := g2 k (by omega)
    simp only at f1 f2
    show laws_FnPairsNear.j7 (k + 1) (r : Int) v true ((dist8 (FR r) : Nat) : Int) false = _
    simp only [laws_FnPairsNear.j7]
    rw [if_neg Bool.false_ne_true, if_pos trivial, f1, obind, if_pos rfl, w64 (by omega) (by omega), if_neg (show ¬ v < ((FR r : Nat) : Int) - ((dist8 (FR r) : Nat) : Int) by omega), if_neg (show ¬ ((dist8 (FR r) : Nat) : Int) > ((FR r : Nat) : Int) by omega), if_neg (show ¬ ((dist8 (FR r) : Nat) : Int) < 1 by omega), decide_eq_false (show ¬ v < 1 by omega)]
    exact f2
theorem law_j3 (z : List Int) (rg ct nn : Int) (hz1 : spec_DrawCountByPairs.f z = some (rg, ct)) (hz2 : spec_DrawMostSaved.f z = some nn) (o : Bool) (fl : List ByteArray) (T : Int) (a : ByteArray) (h : o = true → ∃ r s, Run a r s ∧ fl = pickT r (isTop s (topR r s)) (2 ^ r) ∧ T = topR r s) : Ev (fun k => laws_FnPairsNear.j3 k z a fl T o) true := by
  have h5 := law_j5 z rg ct nn hz1 hz2
  cases o with
  | false =>
    refine Ev.step (fun k => ?_) h5
    simp only [laws_FnPairsNear.j3]
    rw [if_neg Bool.false_ne_true]
  | true =>
    obtain ⟨r, s, U, rfl, rfl⟩ := h rfl
    obtain ⟨t1, m0, hm0, e0⟩ := top_facts U
    have hlen := pickU_len (isTop s (topR r s)) (2 ^ r)
    have h4096 := pow_le12 U.h12
    have hpos : 0 < (pickU (isTop s (topR r s)) (2 ^ r)).length := List.length_pos_of_mem (pick_mem.2 ⟨hm0, by unfold isTop; rw [e0]; exact beq_self_eq_true _⟩)
    have go : ∀ d i, i + d = (pickU (isTop s (topR r s)) (2 ^ r)).length → Ev (fun k => laws_FnPairsNear.l1 k z a (pickT r (isTop s (topR r s)) (2 ^ r)) (topR r s) (pickT r (isTop s (topR r s)) (2 ^ r)) ((pickT r (isTop s (topR r s)) (2 ^ r)).length : Int) (i : Int)) true := by
      intro d
      induction d with
      | zero =>
        intro i hi
        refine Ev.step (fun k => ?_) h5
        simp only [laws_FnPairsNear.l1]
        rw [pickT_length, if_neg (fun h => by have := Int.ofNat_lt.1 h; omega), if_neg (show ¬ (((pickU (isTop s (topR r s)) (2 ^ r)).length : Nat) : Int) < 1 by omega), if_neg (show ¬ topR r s < 1 by omega)]
      | succ d ih =>
        intro i hi
        have hil : i < (pickU (isTop s (topR r s)) (2 ^ r)).length := by omega
        have hm := pick_mem.1 (List.getElem_mem hil)
        have hf := few_run U hm.1
        have he : fz (s.far (pickU (isTop s (topR r s)) (2 ^ r))[i]) = topR r s := by
          have := hm.2
          unfold isTop at this
          exact beq_iff_eq.1 this
        rw [he] at hf
        have hlt : (i : Int) < ((pickT r (isTop s (topR r s)) (2 ^ r)).length : Int) := by rw [pickT_length]; exact Int.ofNat_lt.2 hil
        refine ev_num hf (ih (i + 1) (by omega)) (fun k hk => ?_)
        simp only [laws_FnPairsNear.l1]
        rw [if_pos hlt, if_pos (Int.natCast_nonneg _), if_pos hlt, pick_at r _ _ i hil, hk, obind, succ64 (by omega)]
        by_cases h4 : (i : Int) < 4
        · rw [if_pos h4, if_pos rfl, if_pos rfl]
        · rw [if_neg h4]
    refine Ev.step (fun k => ?_) (go (pickU (isTop s (topR r s)) (2 ^ r)).length 0 (Nat.zero_add _))
    simp only [laws_FnPairsNear.j3]
    rw [if_pos trivial]
    rfl
theorem near_one (U : Run a r s) : (pickU (nearP s 0) (2 ^ r)).length = 1 := by
  have h1 : (pickU (nearP s 0) (2 ^ r)).length ≤ [num a.data.toList].length := nodup_le _ _ (pick_nodup _ _) (fun m hm => by
    obtain ⟨h1, h2⟩ := pick_mem.1 hm
    obtain ⟨v, hv⟩ := all_far U h1
    unfold nearP at h2
    rw [hv, fz_nat, decide_eq_true_eq] at h2
    have hv0 : v = 0 := by omega
    have e : m = num a.data.toList := far_is U (by rw [hv, hv0])
    rw [e]
    exact List.mem_singleton_self _)
  have h2 : 0 < (pickU (nearP s 0) (2 ^ r)).length := List.length_pos_of_mem (pick_mem.2 ⟨U.lt, by unfold nearP; rw [far_self U]; rfl⟩)
  simp only [List.length_singleton] at h1
  omega
theorem near_less (U : Run a r s) (x : Int) (hx : 0 < x) : (pickU (nearP s (x - 1)) (2 ^ r)).length ≤ (pickU (nearP s x) (2 ^ r)).length ∧ (x ≤ topR r s → (pickU (nearP s (x - 1)) (2 ^ r)).length < (pickU (nearP s x) (2 ^ r)).length) := by
  have hsub : ∀ m ∈ pickU (nearP s (x - 1)) (2 ^ r), m ∈ pickU (nearP s x) (2 ^ r) := by
    intro m hm
    obtain ⟨h1, h2⟩ := pick_mem.1 hm
    refine pick_mem.2 ⟨h1, ?_⟩
    unfold nearP at h2 ⊢
    rw [decide_eq_true_eq] at h2 ⊢
    omega
  refine ⟨nodup_le _ _ (pick_nodup _ _) hsub, fun ht => ?_⟩
  obtain ⟨_, m0, hm0, e0⟩ := top_facts U
  obtain ⟨v, hv⟩ := all_far U hm0
  rw [hv, fz_nat] at e0
  obtain ⟨t, htl, hft⟩ := far_levels U.fin U.lt v m0 hm0 hv x.toNat (by omega)
  have h := nodup_le (t :: pickU (nearP s (x - 1)) (2 ^ r)) (pickU (nearP s x) (2 ^ r)) (List.nodup_cons.2 ⟨fun hm => by
    obtain ⟨_, h2⟩ := pick_mem.1 hm
    unfold nearP at h2
    rw [hft, fz_nat, decide_eq_true_eq] at h2
    omega, pick_nodup _ _⟩) (fun m hm => by
    rcases List.mem_cons.1 hm with rfl | hm
    · refine pick_mem.2 ⟨htl, ?_⟩
      unfold nearP
      rw [hft, fz_nat, decide_eq_true_eq]
      omega
    · exact hsub m hm)
  rw [List.length_cons] at h
  exact h
theorem law_j2 (z : List Int) (rg ct nn : Int) (hz1 : spec_DrawCountByPairs.f z = some (rg, ct)) (hz2 : spec_DrawMostSaved.f z = some nn) (U : Run a r s) (x : Int) (hx : inM x = true) : Ev (fun k => laws_FnPairsNear.j2 k z a x (pickT r (nearP s x) (2 ^ r)) (pickT r (isTop s (topR r s)) (2 ^ r)) (topR r s) true false) true := by
  have h3 := law_j3 z rg ct nn hz1 hz2 true (pickT r (isTop s (topR r s)) (2 ^ r)) (topR r s) a (fun _ => ⟨r, s, U, rfl, rfl⟩)
  have hx2 : (0 : Int) ≤ x ∧ x ≤ 6 := by unfold inM at hx; exact of_decide_eq_true hx
  by_cases h0 : x > 0
  · have hx1 : inM (x - 1) = true := by unfold inM; exact decide_eq_true (by omega)
    have hn := (near_run U hx1).2
    obtain ⟨l1, l2⟩ := near_less U x h0
    refine ev_num hn h3 (fun k hk => ?_)
    simp only [laws_FnPairsNear.j2]
    rw [if_neg Bool.false_ne_true, if_pos h0, w64 (by omega) (by omega), hk, obind, if_pos rfl, pickT_length, pickT_length, if_neg (show ¬ (((pickU (nearP s (x - 1)) (2 ^ r)).length : Nat) : Int) > (((pickU (nearP s x) (2 ^ r)).length : Nat) : Int) by omega)]
    by_cases ht : x ≤ topR r s
    · have := l2 ht
      rw [if_pos ht, if_neg (show ¬ (((pickU (nearP s (x - 1)) (2 ^ r)).length : Nat) : Int) = (((pickU (nearP s x) (2 ^ r)).length : Nat) : Int) by omega)]
    · rw [if_neg ht]
  · refine Ev.step (fun k => ?_) h3
    simp only [laws_FnPairsNear.j2]
    rw [if_neg Bool.false_ne_true, if_neg h0]
theorem law_l0 (z : List Int) (rg ct nn : Int) (hz1 : spec_DrawCountByPairs.f z = some (rg, ct)) (hz2 : spec_DrawMostSaved.f z = some nn) (U : Run a r s) (x : Int) (hx : inM x = true) : ∀ d i (b : Int), i + d = (pickU (nearP s x) (2 ^ r)).length → (∀ h : i < (pickU (nearP s x) (2 ^ r)).length, b < (((pickU (nearP s x) (2 ^ r))[i] : Nat) : Int)) →
    Ev (fun k => laws_FnPairsNear.l0 k z a x (pickT r (nearP s x) (2 ^ r)) (pickT r (isTop s (topR r s)) (2 ^ r)) (topR r s) true b (pickT r (nearP s x) (2 ^ r)) ((pickT r (nearP s x) (2 ^ r)).length : Int) (i : Int)) true := by
  have h2 := law_j2 z rg ct nn hz1 hz2 U x hx
  have hx2 : (0 : Int) ≤ x ∧ x ≤ 6 := by unfold inM at hx; exact of_decide_eq_true hx
  have hlen := pickU_len (nearP s x) (2 ^ r)
  have h4096 := pow_le12 U.h12
  have hin : num a.data.toList ∈ pickU (nearP s x) (2 ^ r) := pick_mem.2 ⟨U.lt, by unfold nearP; rw [far_self U, fz_nat, decide_eq_true_eq]; omega⟩
  obtain ⟨j0, hj0, ej0⟩ := List.getElem_of_mem hin
  have hself : tx (stOf r (num a.data.toList)) = a := by
    have := stOf_num a.data.toList (goodP_len U.good).2.2.1
    rw [U.len] at this
    rw [this, tx_self]
  have hy := yText (pickT r (nearP s x) (2 ^ r)) (by rw [pickT_length]; omega) a j0 (by rw [pickT_length]; exact hj0) (by
    have h := pick_at r (nearP s x) (2 ^ r) j0 hj0
    have h5 : j0 < (pickT r (nearP s x) (2 ^ r)).length := by rw [pickT_length]; exact hj0
    have h6 : rdOf ByteArray.empty (pickT r (nearP s x) (2 ^ r)) (j0 : Int) = (pickT r (nearP s x) (2 ^ r))[j0] := by
      show (pickT r (nearP s x) (2 ^ r)).getD j0 ByteArray.empty = _
      rw [List.getD_eq_getElem?_getD, List.getElem?_eq_getElem h5]
      rfl
    rw [← h6, h, ej0, hself])
  intro d
  induction d with
  | zero =>
    intro i b hi _
    refine ev_num hy h2 (fun k hk => ?_)
    simp only [laws_FnPairsNear.l0]
    rw [if_neg (show ¬ (i : Int) < ((pickT r (nearP s x) (2 ^ r)).length : Int) from fun h => by rw [pickT_length] at h; have := Int.ofNat_lt.1 h; omega), hk, obind, if_pos rfl]
    by_cases h0 : x = 0
    · have hb : (((pickT r (nearP s x) (2 ^ r)).length : Int) != 1) = false := by
        rw [pickT_length, h0, near_one U]
        rfl
      rw [if_pos h0, hb]
    · rw [if_neg h0]
  | succ d ih =>
    intro i b hi hb
    have hil : i < (pickU (nearP s x) (2 ^ r)).length := by omega
    have hm := pick_mem.1 (List.getElem_mem hil)
    have hf := few_run U hm.1
    have hn := numOf U hm.1
    have hle : fz (s.far (pickU (nearP s x) (2 ^ r))[i]) ≤ x := by
      have := hm.2
      unfold nearP at this
      exact of_decide_eq_true this
    have hbi := hb hil
    have hlt : (i : Int) < ((pickT r (nearP s x) (2 ^ r)).length : Int) := by rw [pickT_length]; exact Int.ofNat_lt.2 hil
    refine ev_num2 hn hf (ih (i + 1) (((pickU (nearP s x) (2 ^ r))[i] : Nat) : Int) (by omega) (fun h => Int.ofNat_lt.2 (List.pairwise_iff_getElem.1 (pick_sorted (nearP s x) (2 ^ r)) i (i + 1) hil h (Nat.lt_succ_self i)))) (fun k hk1 hk2 => ?_)
    simp only [laws_FnPairsNear.l0]
    rw [if_pos hlt, if_pos (Int.natCast_nonneg _), if_pos hlt, pick_at r _ _ i hil, hk1, obind, hk2, obind, if_pos rfl, if_neg (show ¬ (((pickU (nearP s x) (2 ^ r))[i] : Nat) : Int) ≤ b by omega), if_pos rfl, if_neg (show ¬ fz (s.far (pickU (nearP s x) (2 ^ r))[i]) > x by omega), succ64 (by omega)]
end Go.Proofs.YtgfjgpnaalblbaaGreatDoor.Lem
namespace Go.Proofs.YtgfjgpnaalblbaaGreatDoor.Pure
open Go.RowKit Go.Proofs.YtgfjgpnaalblbaaGreatDoor.Lem Go.Proofs.YtgfjgpnaalblbaaGreatDoor.PN Go.Proofs.YtgfjgpnaalblbaaGreatDoorW.PrintWords Go.Proofs.YtgfjgpnaalblbaaGreatDoorW.PrintLast Go.Proofs.YtgfjgpnaalblbaaGreatDoorW.PrintMore Go.Proofs.YtgfjgpnaalblbaaGreatDoor.Ring Go.Proofs.YtgfjgpnaalblbaaGreatDoor.Bfs

theorem law_f {w z : List Int} {a : ByteArray} {x : Int} {nl fl : List ByteArray} {ok o : Bool} {T : Int} (hb : laws_big.f w z = some false) (hw : Ev (fun k => spec_DrawNearByPairs.f k w) (a, x)) (h1 : nl.length ≤ 4096) (h2 : fl.length ≤ 4096) (n1 : Ev (fun k => impl_NearByPairs.f k a x) (nl, ok)) (n2 : Ev (fun k => spec_NearByPairs.f k a x) (nl, ok)) (f1 : Ev (fun k => impl_FarthestByPairs.f k a) (fl, T, o)) (f2 : Ev (fun k => spec_FarthestByPairs.f k a) (fl, T, o)) (hoo : ok = true → o = true)
    (hj : Ev (fun k => laws_FnPairsNear.j0 k z a x nl ok fl T o false) true) : Ev (fun k => laws_FnPairsNear.f k w z) true := by
  unfold laws_FnPairsNear.f
  rw [hb]
  refine Ev.congr (fun k => by rw [obind, if_neg Bool.false_ne_true]) (Ev.bind hw (Ev.bind n1 (Ev.bind n2 (Ev.bind f1 (Ev.bind f2 ?_)))))
  refine Ev.congr (fun k => by rw [bne_self_eq_false, if_neg Bool.false_ne_true]) (Ev.bind (yTexts nl (by omega)) ?_)
  refine Ev.congr (fun k => by rw [if_pos rfl, bne_self_eq_false, if_neg Bool.false_ne_true]) (Ev.bind (yTexts fl (by omega)) ?_)
  refine Ev.congr (fun k => by rw [if_pos rfl, if_pos rfl]) ?_
  cases ok with
  | false => exact Ev.congr (fun k => if_neg Bool.false_ne_true) hj
  | true =>
    obtain rfl := hoo rfl
    exact Ev.congr (fun k => if_pos rfl) hj
theorem draw_near {l : List Int} (hl : Byts l) : ∃ a x, Ev (fun k => spec_DrawNearByPairs.f k l) (a, x) := by
  obtain ⟨a, b, p1, q1, e1, ha1⟩ := draw_pair hl (n := 0) (by omega) (p := 0) (q := 0) ⟨Int.le_refl _, Int.le_refl _⟩
  obtain ⟨x, p2, q2, e2, _, _⟩ := draw_among hl (by omega : 0 + 60 < 4000000000) (q := q1) ha1 [0, 1, 2, 3, 6, 7, (-1)] (by simp) (by simp)
  refine ⟨a, x, ?_⟩
  unfold spec_DrawNearByPairs.f
  refine Ev.bind (a := (a, x, p2, q2)) ?_ (Ev.now _)
  unfold spec_DrawNearByPairs.g
  refine Ev.bind e1 (Ev.congr (fun k => ?_) (Ev.now _))
  show (spec_l1Cur_among.f l p1 q1 _).bind _ = _
  rw [e2, obind]
theorem draw_count {l : List Int} (hl : Byts l) : ∃ a x, spec_DrawCountByPairs.f l = some (a, x) := by
  obtain ⟨a, p1, q1, e1, _, ha1⟩ := draw_among hl (by omega : 0 < 4000000000) (p := 0) (q := 0) ⟨Int.le_refl _, Int.le_refl _⟩ [2, 3, 4, 5, 8, 1, 13] (by simp) (by simp)
  obtain ⟨x, p2, q2, e2, _, _⟩ := draw_among hl (by omega : 0 + 1 < 4000000000) (q := q1) ha1 [0, 1, 2, 3, 5, 8, 10000, 10001, (-1)] (by simp) (by simp)
  refine ⟨a, x, ?_⟩
  unfold spec_DrawCountByPairs.f spec_DrawCountByPairs.g
  rw [e1, obind]
  show ((spec_l1Cur_among.f l p1 q1 _).bind _).bind _ = _
  rw [e2, obind, obind]
theorem draw_saved {l : List Int} (hl : Byts l) : ∃ a, spec_DrawMostSaved.f l = some a := by
  obtain ⟨a, p1, q1, e1, _, ha1⟩ := draw_among hl (by omega : 0 < 4000000000) (p := 0) (q := 0) ⟨Int.le_refl _, Int.le_refl _⟩ [2, 3, 4, 5, 8, 12, 13, 1, 0] (by simp) (by simp)
  refine ⟨a, ?_⟩
  unfold spec_DrawMostSaved.f spec_DrawPairMovesToClear.f spec_DrawPairMovesToClear.g
  rw [e1, obind, obind, obind]
theorem big_f (w z : List Int) : ∃ b, laws_big.f w z = some b := by
  unfold laws_big.f
  by_cases c : (w.length : Int) > 1048576
  · rw [if_pos c]; exact ⟨_, rfl⟩
  · rw [if_neg c]; exact ⟨_, rfl⟩
theorem FnPairsNear : laws_FnPairsNear.Pure := by
  intro w z _ _ hw0 _ _ hz0
  have key : Ev (fun k => laws_FnPairsNear.f k w z) true := by
    obtain ⟨bb, hb⟩ := big_f w z
    cases bb with
    | true =>
      unfold laws_FnPairsNear.f
      rw [hb]
      exact Ev.congr (fun k => by rw [obind, if_pos rfl]) (Ev.now _)
    | false =>
    obtain ⟨a, x, hw⟩ := draw_near (byts_of hw0)
    obtain ⟨rg, ct, hz1⟩ := draw_count (byts_of hz0)
    obtain ⟨nn, hz2⟩ := draw_saved (byts_of hz0)
    cases hg : goodP a.data.toList with
    | false =>
      obtain ⟨f2, f1⟩ := far_bad hg
      obtain ⟨n2, n1⟩ := near_bad (a := a) (x := x) (by rw [hg]; rfl)
      refine law_f hb hw (by simp) (by simp) n1 n2 f1 f2 (fun h => h) ?_
      refine Ev.step (fun k => ?_) (law_j3 z rg ct nn hz1 hz2 false [] 0 a (fun h => by cases h))
      simp only [laws_FnPairsNear.j0]
      rw [if_neg Bool.false_ne_true, if_neg Bool.false_ne_true]
    | true =>
      obtain ⟨r, s, U⟩ := run_of hg
      have h4096 := pow_le12 U.h12
      obtain ⟨f2, f1⟩ := far_run' U
      have l2 : (pickT r (isTop s (topR r s)) (2 ^ r)).length ≤ 4096 := Nat.le_trans (pickT_len r _ (2 ^ r)) h4096
      cases hx : inM x with
      | false =>
        obtain ⟨n2, n1⟩ := near_bad (a := a) (x := x) (by rw [hg, hx]; rfl)
        refine law_f hb hw (by simp) l2 n1 n2 f1 f2 (fun h => by cases h) ?_
        refine Ev.step (fun k => ?_) (law_j3 z rg ct nn hz1 hz2 true _ _ a (fun _ => ⟨r, s, U, rfl, rfl⟩))
        simp only [laws_FnPairsNear.j0]
        rw [if_neg Bool.false_ne_true, if_neg Bool.false_ne_true]
      | true =>
        obtain ⟨n2, n1⟩ := near_run U hx
        refine law_f hb hw (Nat.le_trans (pickT_len r _ (2 ^ r)) h4096) l2 n1 n2 f1 f2 (fun _ => rfl) ?_
        have h := law_l0 z rg ct nn hz1 hz2 U x hx (pickU (nearP s x) (2 ^ r)).length 0 (-1) (Nat.zero_add _) (fun _ => by omega)
        refine Ev.step (fun k => ?_) h
        simp only [laws_FnPairsNear.j0]
        rw [if_neg Bool.false_ne_true, if_pos trivial]
        rfl
  obtain ⟨K, h⟩ := key
  exact ⟨K, h K (Nat.le_refl _)⟩
end Go.Proofs.YtgfjgpnaalblbaaGreatDoor.Pure
