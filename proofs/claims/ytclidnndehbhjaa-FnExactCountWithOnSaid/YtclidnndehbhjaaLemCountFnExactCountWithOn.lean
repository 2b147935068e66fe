/-
  The pure statement of the law on CountWithOn (lines of LemRing, LemWith, LemChosen over this seat's print).
-/
import Derived.Test.YtclidnndehbhjaaPFnExactCountWithOnx1
import Derived.Test.YtclidnndehbhjaaWith
namespace Go.Proofs.Ytclidnndehbhjaa.Lem
open Go.RowKit Go.Proofs.Ytclidnndehbhjaa.PFnExactCountWithOn Go.Proofs.YtclidnndehbhjaaW.PrintWords Go.Proofs.YtclidnndehbhjaaW.PrintLast Go.Proofs.YtclidnndehbhjaaW.PrintMore Go.Proofs.Ytclidnndehbhjaa.Ring
set_option linter.unusedVariables false
set_option linter.unusedSimpArgs false
theorem obind {α β : Type} (a : α) (f : α → Option β) : (some a).bind f = f a := by rw [Option.bind_some]
theorem w64 {n : Int} (h1 : -9223372036854775808 ≤ n) (h2 : n ≤ 9223372036854775807) : wrap64 n = n := by unfold wrap64; omega
theorem size_eq (s : ByteArray) : s.size = s.data.toList.length := by rw [Array.length_toList]; rfl
theorem bt_drop {s : ByteArray} {i : Nat} {c : UInt8} {m : List UInt8} (h : s.data.toList.drop i = c :: m) : i < s.size ∧ bt s (i : Int) = (c.toNat : Int) ∧ s.data.toList.drop (i + 1) = m := by
  have hi : i < s.data.toList.length := by
    apply Nat.lt_of_not_le
    intro hle
    rw [List.drop_eq_nil_of_le hle] at h
    cases h
  rw [List.drop_eq_getElem_cons hi] at h
  injection h with h1 h2
  have hs : i < s.size := by rw [size_eq]; exact hi
  refine ⟨hs, ?_, h2⟩
  unfold bt
  rw [dif_pos (show (i : Int).toNat < s.size by simpa using hs)]
  rw [← h1]
  rfl
theorem toNat_eq {c : UInt8} {n : Nat} (hn : n < 256) : ((c.toNat : Int) = (n : Int)) ↔ c = UInt8.ofNat n := by
  constructor
  · intro h
    have h' : c.toNat = n := by omega
    rw [← h']
    simp
  · intro h
    subst h
    simp
    omega
theorem is48 (c : UInt8) : ((c.toNat : Int) = 48) ↔ c = 48 := toNat_eq (n := 48) (by decide)
theorem is49 (c : UInt8) : ((c.toNat : Int) = 49) ↔ c = 49 := toNat_eq (n := 49) (by decide)

theorem in_eq (a b c : Int) : impl_in.f a b c = some (decide (b ≤ a ∧ a ≤ c)) := by
  unfold impl_in.f
  by_cases h1 : a ≥ b
  · rw [if_pos h1]
    have h1' : b ≤ a := h1
    by_cases h2 : a ≤ c
    · simp [h1', h2]
    · simp [h2]
  · rw [if_neg h1]
    have h1' : ¬ b ≤ a := h1
    simp [h1']
theorem l1In_eq (a b c : Int) : spec_l1In.f a b c = some (decide (b ≤ a ∧ a ≤ c)) := in_eq a b c

theorem wrap_i64 {n : Int} (h1 : -9223372036854775808 ≤ n) (h2 : n ≤ 9223372036854775807) : IntKind.i64.wrap n = n := by
  rw [IntKind.wrap_i64]
  omega
theorem and_one (a : Nat) (ha : a < 4611686018427387904) : Go.bits .and .i64 (a : Int) 1 = ((a % 2 : Nat) : Int) := by
  have h := (bits_nat .i64 62 (by decide) (fun n h0 h1 => wrap_i64 (by omega) (by have : (2 : Int) ^ 62 = 4611686018427387904 := rfl; omega)) a 1 (by omega) (by omega)).1
  rw [Nat.and_one_is_mod] at h
  exact h
theorem shr_nat (n j : Nat) (hj : j ≤ 64) : shr .i64 (n : Int) (j : Int) = ((n / 2 ^ j : Nat) : Int) := by
  unfold shr
  have e : (j : Int).toNat = j := rfl
  rw [e, Nat.min_eq_left (by exact hj)]
  simp
theorem shl_one (j : Nat) (hj : j ≤ 62) : shl .i64 1 (j : Int) = ((2 ^ j : Nat) : Int) := by
  unfold shl
  have e : (j : Int).toNat = j := rfl
  have h : 2 ^ j ≤ 2 ^ 62 := Nat.pow_le_pow_right (by decide) hj
  have h' : (2 : Nat) ^ 62 = 4611686018427387904 := rfl
  rw [e, Nat.min_eq_left (show j ≤ IntKind.i64.bits from by show j ≤ 64; omega), Int.one_mul]
  have e2 : ((2 : Int) ^ j) = ((2 ^ j : Nat) : Int) := by simp
  rw [e2]
  generalize 2 ^ j = x at h ⊢
  exact wrap_i64 (by omega) (by omega)
theorem div_lt_big (n j : Nat) (hn : n < 4611686018427387904) : n / 2 ^ j < 4611686018427387904 := Nat.lt_of_le_of_lt (Nat.div_le_self _ _) hn
theorem stOf_take (r n : Nat) : stOf (r + 1) n = stOf r n ++ [sign n r] := by
  unfold stOf
  rw [List.range_succ]
  simp
theorem append_one (l : List UInt8) (c : UInt8) : ((⟨l.toArray⟩ : ByteArray) ++ (⟨#[c]⟩ : ByteArray)) = ⟨(l ++ [c]).toArray⟩ := by
  apply ByteArray.ext
  simp
theorem riState_l0 (r n : Nat) (hr : r ≤ 60) (hn : n < 4611686018427387904) : ∀ (d j k : Nat), j ≤ r → r - j = d → d < k →
    spec_riState.l0 k (r : Int) (n : Int) ⟨(stOf j n).toArray⟩ (j : Int) = some ⟨(stOf r n).toArray⟩ := by
  intro d
  induction d with
  | zero =>
    intro j k hj hd hk
    obtain ⟨k, rfl⟩ : ∃ j, k = j + 1 := ⟨k - 1, by omega⟩
    have : j = r := by omega
    subst this
    simp only [spec_riState.l0]
    rw [if_neg (by omega)]
  | succ d ih =>
    intro j k hj hd hk
    obtain ⟨k, rfl⟩ : ∃ j, k = j + 1 := ⟨k - 1, by omega⟩
    have ew : wrap64 ((j : Int) + 1) = ((j + 1 : Nat) : Int) := by rw [w64 (by omega) (by omega)]; omega
    have e := ih (j + 1) k (by omega) (by omega) (by omega)
    simp only [spec_riState.l0]
    rw [if_pos (by omega), if_pos (by omega), ew, if_pos (by omega), shr_nat _ _ (by omega), shr_nat _ _ (by omega), and_one _ (div_lt_big n j hn), and_one _ (div_lt_big n (j + 1) hn)]
    have hsz : (⟨(stOf j n).toArray⟩ : ByteArray).size + 1 ≤ 9223372036854775807 := by rw [size_eq]; simp [stOf_length]; omega
    rw [if_pos hsz, append_one, append_one]
    rw [stOf_take] at e
    unfold sign at e
    by_cases h : n / 2 ^ j % 2 = n / 2 ^ (j + 1) % 2
    · rw [if_pos (by omega)]
      rw [if_pos h] at e
      exact e
    · rw [if_neg (by omega)]
      rw [if_neg h] at e
      rw [if_pos hsz]
      exact e
theorem riState (r n : Nat) (hr : r ≤ 60) (hn : n < 4611686018427387904) : Ev (fun k => spec_riState.f k (r : Int) (n : Int)) ⟨(stOf r n).toArray⟩ :=
  Ev.of (k := r + 1) (fun k => spec_riState.mono _ _ k) (riState_l0 r n hr hn r 0 (r + 1) (by omega) (by omega) (by omega))
theorem riOn_l0 (s : ByteArray) (hs : s.size ≤ 1000000) : ∀ (m : List UInt8) (i k n : Nat), s.data.toList.drop i = m → m.length < k → n ≤ i → spec_riOn.l0 k s (n : Int) (i : Int) = some ((n + ones m : Nat) : Int) := by
  intro m
  induction m with
  | nil =>
    intro i k n h hk hn
    obtain ⟨k, rfl⟩ : ∃ j, k = j + 1 := ⟨k - 1, by omega⟩
    have := List.drop_eq_nil_iff.1 h
    have e := size_eq s
    simp only [spec_riOn.l0]
    rw [if_neg (by omega)]
    rfl
  | cons c m ih =>
    intro i k n h hk hn
    obtain ⟨k, rfl⟩ : ∃ j, k = j + 1 := ⟨k - 1, by omega⟩
    obtain ⟨h1, h2, h3⟩ := bt_drop h
    simp only [List.length_cons] at hk
    have ew : wrap64 ((i : Int) + 1) = ((i + 1 : Nat) : Int) := by rw [w64 (by omega) (by omega)]; omega
    have ewn : wrap64 ((n : Int) + 1) = ((n + 1 : Nat) : Int) := by rw [w64 (by omega) (by omega)]; omega
    simp only [spec_riOn.l0]
    rw [if_pos (by omega), if_pos (by omega), h2, ew, ewn]
    simp only [is49]
    by_cases hc : c = 49
    · rw [if_pos hc, ih (i + 1) k (n + 1) h3 (by omega) (by omega)]
      subst hc
      simp only [ones, List.count_cons_self]
      congr 1
      omega
    · rw [if_neg hc, ih (i + 1) k n h3 (by omega) (by omega)]
      simp only [ones]
      rw [List.count_cons_of_ne hc]
theorem riOn (s : ByteArray) (hs : s.size ≤ 1000000) : Ev (fun k => spec_riOn.f k s) (ones s.data.toList : Int) := by
  refine Ev.of (k := s.data.toList.length + 1) (fun k => spec_riOn.mono s k) ?_
  have := riOn_l0 s hs s.data.toList 0 (s.data.toList.length + 1) 0 rfl (by omega) (by omega)
  rw [Nat.zero_add] at this
  exact this
def zz (m : Nat) : Int := (m : Int)
def stB (r n : Nat) : ByteArray := ⟨(stOf r n).toArray⟩
theorem stB_data (r n : Nat) : (stB r n).data.toList = stOf r n := by simp [stB]
theorem stB_size (r n : Nat) : (stB r n).size = r := by rw [size_eq, stB_data, stOf_length]
theorem pow12 {r : Nat} (h : r ≤ 12) : 2 ^ r ≤ 4096 := Nat.pow_le_pow_right (by decide) h
theorem int_eqn (a b : Nat) : ((a : Int) = (b : Int)) ↔ a = b := by omega
theorem succ64 {n : Nat} (h : n < 4611686018427387904) : wrap64 ((n : Int) + 1) = ((n + 1 : Nat) : Int) := by rw [w64 (by omega) (by omega)]; omega
theorem waWith_l0 (r on : Nat) (hr : r ≤ 12) : ∀ (d n : Nat), n + d = 2 ^ r → Ev (fun k => spec_waWith.l0 k (r : Int) (on : Int) ((withU r on n).map zz) (n : Int)) ((withL r on).map zz) := by
  intro d
  have hp := pow12 hr
  induction d with
  | zero =>
    intro n hd
    refine Ev.step (f := fun _ => some ((withL r on).map zz)) (fun k => ?_) (Ev.now _)
    simp only [spec_waWith.l0]
    rw [shl_one r (by omega), if_pos (by omega), if_neg (by omega)]
    have : n = 2 ^ r := by omega
    subst this
    rfl
  | succ d ih =>
    intro n hd
    have h2 := ih (n + 1) (by omega)
    have hl := withU_len r on n
    refine Ev.step (f := fun k => (spec_riState.f k (r : Int) (n : Int)).bind fun t104 => ((spec_riOn.f k t104).bind fun t105 => (if t105 = (on : Int) then (spec_waWith.l0 k (r : Int) (on : Int) ((withU r on n).map zz ++ [zz n]) ((n + 1 : Nat) : Int)) else (spec_waWith.l0 k (r : Int) (on : Int) ((withU r on n).map zz) ((n + 1 : Nat) : Int))))) (fun k => ?_) ?_
    · simp only [spec_waWith.l0]
      rw [shl_one r (by omega), if_pos (by omega), if_pos (by omega), if_pos (by rw [List.length_map]; omega), succ64 (by omega)]
      rfl
    · refine Ev.bind (riState r n (by omega) (by omega)) (Ev.bind (riOn _ (by show (stB r n).size ≤ _; rw [stB_size]; omega)) ?_)
      rw [show ((⟨(stOf r n).toArray⟩ : ByteArray).data.toList) = stOf r n from by simp]
      rw [withU_succ] at h2
      by_cases h : ones (stOf r n) = on
      · rw [if_pos h, List.map_append] at h2
        exact Ev.congr (fun k => if_pos (by omega)) h2
      · rw [if_neg h] at h2
        exact Ev.congr (fun k => if_neg (by omega)) h2
theorem waWith (r on : Nat) (hr : r ≤ 12) : Ev (fun k => spec_waWith.f k (r : Int) (on : Int)) ((withL r on).map zz) := waWith_l0 r on hr (2 ^ r) 0 (by omega)
def onB (a b : Int) : Bool := decide (1 ≤ a ∧ a ≤ 12) && decide (0 ≤ b ∧ b ≤ a)
theorem waOn (a b : Int) : spec_waOn.f a b = some (onB a b) := by
  unfold spec_waOn.f spec_waRings.f onB
  rw [l1In_eq, l1In_eq]
  simp only [obind]
  cases h : decide (1 ≤ a ∧ a ≤ 12) <;> simp
theorem isOn (a b : Int) : impl_isOn.f a b = some (onB a b) := by
  unfold impl_isOn.f impl_areWalks.f onB
  rw [in_eq, in_eq]
  simp only [obind]
  cases h : decide (1 ≤ a ∧ a ≤ 12) <;> simp
theorem onB_nat {a b : Int} (h : onB a b = true) : ∃ r on : Nat, a = (r : Int) ∧ b = (on : Int) ∧ 1 ≤ r ∧ r ≤ 12 ∧ on ≤ r := by
  simp only [onB, Bool.and_eq_true, decide_eq_true_eq] at h
  exact ⟨a.toNat, b.toNat, by omega, by omega, by omega, by omega, by omega⟩
theorem chosen_tab : ∀ r : Fin 13, ∀ on : Fin 13, on.val ≤ r.val → impl_chosen.f 14 (r.val : Int) (on.val : Int) = some (pas r.val on.val : Int) := by decide +kernel
theorem chosen (r on : Nat) (hr : r ≤ 12) (ho : on ≤ r) : Ev (fun k => impl_chosen.f k (r : Int) (on : Int)) (pas r on : Int) :=
  Ev.of (k := 14) (fun k => impl_chosen.mono _ _ k) (chosen_tab ⟨r, by omega⟩ ⟨on, by omega⟩ ho)
end Go.Proofs.Ytclidnndehbhjaa.Lem
namespace Go.Proofs.Ytclidnndehbhjaa.Pure
open Go.RowKit Go.Proofs.Ytclidnndehbhjaa.PFnExactCountWithOn Go.Proofs.YtclidnndehbhjaaW.PrintWords Go.Proofs.YtclidnndehbhjaaW.PrintLast Go.Proofs.YtclidnndehbhjaaW.PrintMore Go.Proofs.Ytclidnndehbhjaa.Ring Go.Proofs.Ytclidnndehbhjaa.Lem
theorem count_spec (a0 a1 : Int) : ∃ v, Ev (fun k => spec_CountWithOn.f k a0 a1) v ∧ Ev (fun k => impl_CountWithOn.f k a0 a1) v := by
  cases h : onB a0 a1 with
  | false =>
    refine ⟨((0 : Int), false), ?_, ?_⟩
    · unfold spec_CountWithOn.f
      rw [waOn, h]
      exact Ev.congr (fun k => by rw [obind, if_neg (by simp)]) (Ev.now _)
    · unfold impl_CountWithOn.f
      rw [isOn, h]
      exact Ev.congr (fun k => by rw [obind, if_neg (by simp)]) (Ev.now _)
  | true =>
    obtain ⟨r, on, rfl, rfl, h1, h2, h3⟩ := onB_nat h
    refine ⟨((pas r on : Int), true), ?_, ?_⟩
    · unfold spec_CountWithOn.f
      rw [waOn, h]
      refine Ev.congr (fun k => by rw [obind, if_pos rfl]) (Ev.bind (waWith r on h2) ?_)
      rw [List.length_map, withL_len]
      exact Ev.now _
    · unfold impl_CountWithOn.f
      rw [isOn, h]
      refine Ev.congr (fun k => by rw [obind, if_pos rfl]) (Ev.bind (chosen r on h2 h3) (Ev.now _))
theorem FnExactCountWithOn : laws_FnExactCountWithOn.Pure := by
  intro a0 a1 _ _
  obtain ⟨v, h1, h2⟩ := count_spec a0 a1
  refine Ev.rounds ?_
  unfold laws_FnExactCountWithOn.f
  refine Ev.bind h1 (Ev.bind h2 ?_)
  simp only [if_true]
  rw [if_neg (by simp)]
  exact Ev.now _
end Go.Proofs.Ytclidnndehbhjaa.Pure
