/-
  The moves can be taken back: the fewest moves from one state to another are as many as those back.
-/
import Derived.Test.YtppbohghongfmaaDoorLemFarRunN
namespace Go.Proofs.YtppbohghongfmaaDoor.Bfs
set_option linter.unusedSectionVars false
variable {α : Type} [DecidableEq α]
theorem Path.cons {step : α → List α} {a b c : α} {n : Nat} (h : b ∈ step a) (p : Path step b n c) : Path step a (n + 1) c := by
  induction p with
  | nil => exact .snoc .nil h
  | snoc _ hc ih => exact .snoc ih hc
theorem Path.back {step : α → List α} {P : α → Prop} (hP : ∀ a b, P a → b ∈ step a → P b) (hs : ∀ a b, P a → b ∈ step a → a ∈ step b) {a c : α} {n : Nat} (ha : P a) (p : Path step a n c) : P c ∧ Path step c n a := by
  induction p with
  | nil => exact ⟨ha, .nil⟩
  | @snoc n b c _ hc ih => exact ⟨hP b c ih.1 hc, .cons (hs b c ih.1 hc) ih.2⟩
theorem Final.sym {step : α → List α} {P : α → Prop} (hP : ∀ a b, P a → b ∈ step a → P b) (hs : ∀ a b, P a → b ∈ step a → a ∈ step b) {a b : α} (ha : P a) (hb : P b) {sa sb : St α}
    (fa : Final step a sa) (fb : Final step b sb) : sa.far b = sb.far a := by
  have key : ∀ {a b : α} {sa sb : St α}, P a → Final step a sa → Final step b sb → ∀ n, sa.far b = some n → ∃ m, sb.far a = some m ∧ m ≤ n := by
    intro a b sa sb ha fa fb n h
    exact fb.least a n ((fa.path b n h).back hP hs ha).2
  cases h : sa.far b with
  | none =>
    cases h2 : sb.far a with
    | none => rfl
    | some m =>
      obtain ⟨k, hk, _⟩ := key hb fb fa m h2
      rw [h] at hk; cases hk
  | some n =>
    obtain ⟨m, hm, h1⟩ := key ha fa fb n h
    obtain ⟨k, hk, h2⟩ := key hb fb fa m hm
    rw [h] at hk
    obtain rfl := Option.some.inj hk
    rw [hm]
    congr 1
    omega
end Go.Proofs.YtppbohghongfmaaDoor.Bfs
namespace Go.Proofs.YtppbohghongfmaaDoor.Lem
open Go.RowKit Go.Proofs.YtppbohghongfmaaDoor.PN Go.Proofs.YtppbohghongfmaaDoorW.PrintWords Go.Proofs.YtppbohghongfmaaDoorW.PrintLast Go.Proofs.YtppbohghongfmaaDoorW.PrintMore Go.Proofs.YtppbohghongfmaaDoor.Ring Go.Proofs.YtppbohghongfmaaDoor.Bfs
set_option linter.unusedVariables false
theorem nbr_back {r a b : Nat} (ha : a < 2 ^ r) (h : b ∈ nbr r a) : a ∈ nbr r b := by
  simp only [nbr, List.mem_map] at h ⊢
  obtain ⟨k, hk, rfl⟩ := h
  obtain ⟨h1, h2⟩ := back_mkP (stOf_ok r a) hk
  refine ⟨k, ?_, ?_⟩
  · rw [← mkP_eq k]; exact h1
  · rw [← mkP_eq k, h2, num_stOf r a ha]
theorem far_sym {r a b : Nat} (ha : a < 2 ^ r) (hb : b < 2 ^ r) {sa sb : St Nat} (fa : Final (nbr r) a sa) (fb : Final (nbr r) b sb) : sa.far b = sb.far a :=
  fa.sym (P := fun n => n < 2 ^ r) (fun _ _ _ h => nbr_lt h) (fun _ _ h1 h2 => nbr_back h1 h2) ha hb fb
/-- Two states of as many rings, and few. -/
def goodP (l : List UInt8) : Bool := isSt l && decide (2 ≤ l.length ∧ l.length ≤ 12)
def twoP (a b : ByteArray) : Bool := goodP a.data.toList && (goodP b.data.toList && decide (a.data.toList.length = b.data.toList.length))
theorem twGood (s : ByteArray) : Ev (fun k => spec_twGood.f k s) (goodP s.data.toList) := by
  unfold spec_twGood.f goodP
  refine Ev.bind (riGood s) ?_
  rw [l1In_eq, size_eq]
  cases isSt s.data.toList with
  | false => exact Ev.now _
  | true =>
    refine Ev.congr (fun k => by rw [if_pos rfl, obind]) ?_
    have : decide ((2 : Int) ≤ (s.data.toList.length : Int) ∧ (s.data.toList.length : Int) ≤ 12) = (true && decide (2 ≤ s.data.toList.length ∧ s.data.toList.length ≤ 12)) := by
      rw [Bool.true_and, Bool.eq_iff_iff, decide_eq_true_eq, decide_eq_true_eq]
      omega
    rw [this]
    exact Ev.now _
theorem isPaired (s : ByteArray) : impl_isPaired.f s = some (goodP s.data.toList) := by
  unfold impl_isPaired.f goodP
  rw [isState, obind, in_eq, size_eq]
  cases isSt s.data.toList with
  | false => rfl
  | true =>
    rw [if_pos rfl, obind]
    have : decide ((2 : Int) ≤ (s.data.toList.length : Int) ∧ (s.data.toList.length : Int) ≤ 12) = (true && decide (2 ≤ s.data.toList.length ∧ s.data.toList.length ≤ 12)) := by
      rw [Bool.true_and, Bool.eq_iff_iff, decide_eq_true_eq, decide_eq_true_eq]
      omega
    rw [this]
theorem twTwo (a b : ByteArray) : Ev (fun k => spec_twTwo.f k a b) (twoP a b) := by
  unfold spec_twTwo.f twoP
  refine Ev.bind (twGood a) ?_
  cases goodP a.data.toList with
  | false => exact Ev.now _
  | true =>
    refine Ev.congr (fun k => if_pos rfl) (Ev.bind (twGood b) ?_)
    cases goodP b.data.toList with
    | false => exact Ev.now _
    | true => exact Ev.congr (fun k => if_pos rfl) (by rw [size_eq, size_eq, int_beq]; exact Ev.now _)
theorem arePaired (a b : ByteArray) : impl_arePaired.f a b = some (twoP a b) := by
  unfold impl_arePaired.f twoP
  rw [isPaired, isPaired, obind]
  cases goodP a.data.toList with
  | false => rfl
  | true =>
    rw [if_pos rfl, obind]
    cases goodP b.data.toList with
    | false => rfl
    | true => rw [if_pos rfl, size_eq, size_eq, int_beq]; rfl
theorem goodP_len {l : List UInt8} (h : goodP l = true) : 2 ≤ l.length ∧ l.length ≤ 12 ∧ l.all okc = true ∧ isSt l = true := by
  unfold goodP at h
  rw [Bool.and_eq_true, decide_eq_true_eq] at h
  exact ⟨h.2.1, h.2.2, (isSt_len h.1).2.2, h.1⟩
theorem farL_rd {N t : Nat} (st : St Nat) (h : t < N) : rd (farL N st) (t : Int) = fz (st.far t) := rowF_rd N _ t h
theorem farL_length (N : Nat) (st : St Nat) : (farL N st).length = N := rowF_length _ _
end Go.Proofs.YtppbohghongfmaaDoor.Lem
