/-
  The draws: a cursor over any bytes gives its choices: every draw comes to an end.
-/
import Derived.Test.YtppbohghongfmaaDoorLemMvAN
namespace Go.Proofs.YtppbohghongfmaaDoor.Lem
open Go.RowKit Go.Proofs.YtppbohghongfmaaDoor.PN Go.Proofs.YtppbohghongfmaaDoorW.PrintWords Go.Proofs.YtppbohghongfmaaDoorW.PrintLast Go.Proofs.YtppbohghongfmaaDoorW.PrintMore Go.Proofs.YtppbohghongfmaaDoor.Ring Go.Proofs.YtppbohghongfmaaDoor.Bfs
set_option linter.unusedVariables false
set_option linter.unusedSimpArgs false

theorem and255 (x : Int) : 0 ≤ Go.bits .and .u64 x 255 ∧ Go.bits .and .u64 x 255 ≤ 255 := by
  have e : Go.bits .and .u64 x 255 = IntKind.u64.wrap (((BitVec.ofInt 64 x &&& BitVec.ofInt 64 255).toNat : Nat) : Int) := rfl
  have h : (BitVec.ofInt 64 x &&& BitVec.ofInt 64 255).toNat ≤ 255 := by
    rw [BitVec.toNat_and]
    exact Nat.and_le_right
  rw [e]
  generalize (BitVec.ofInt 64 x &&& BitVec.ofInt 64 255).toNat = m at h
  have hw : IntKind.u64.wrap ((m : Nat) : Int) = (m : Int) := by
    unfold IntKind.wrap
    simp [IntKind.signed, IntKind.bits]
    omega
  rw [hw]
  omega
/-- Bytes, as the law's rows give them. -/
def Byts (l : List Int) : Prop := ∀ x ∈ l, 0 ≤ x ∧ x ≤ 255
theorem byts_of {l : List Int} (h : ∀ x ∈ l, (Lit.int .u8 x).wf = true) : Byts l := by
  intro x hx
  have := h x hx
  simp [Lit.wf, IntKind.min, IntKind.max, IntKind.signed, IntKind.bits] at this
  omega
/-- Where the cursor stands. -/
def At (n : Nat) (p : Int) : Prop := 0 ≤ p ∧ p ≤ (n : Int)
theorem draw_next {l : List Int} (hl : Byts l) {n : Nat} (hn : n < 4000000000) {p q : Int} (hp : At n p) : ∃ v p' q', spec_l1Cur_next.f l p q = some (v, p', q') ∧ 0 ≤ v ∧ v ≤ 255 ∧ At (n + 1) p' := by
  obtain ⟨h1, h2⟩ := hp
  have hw : wrap64 (p + 1) = p + 1 := w64 (by omega) (by omega)
  have hat : At (n + 1) (wrap64 (p + 1)) := by rw [hw]; exact ⟨by omega, by omega⟩
  unfold spec_l1Cur_next.f
  by_cases c : p < (l.length : Int)
  · have hr : 0 ≤ rd l p ∧ rd l p ≤ 255 := by
      have hlt : p.toNat < l.length := by omega
      have e : rd l p = l[p.toNat] := by
        unfold rd
        rw [List.getD_eq_getElem?_getD, List.getElem?_eq_getElem hlt]
        rfl
      rw [e]
      exact hl _ (List.getElem_mem hlt)
    have hv : wrap64 (rd l p) = rd l p := w64 (by omega) (by omega)
    rw [if_pos c, if_pos h1]
    by_cases c2 : wrap64 (p + 1) ≤ (l.length : Int)
    · rw [if_pos c2]
      exact ⟨_, _, _, rfl, by rw [hv]; exact hr.1, by rw [hv]; exact hr.2, hat⟩
    · rw [if_neg c2]
      refine ⟨_, _, _, rfl, ?_, ?_, hat⟩
      · rw [w64 (by have := and255 (IntKind.u64.wrap (IntKind.u64.wrap (IntKind.u64.wrap (q * 6364136223846793005) + IntKind.u64.wrap (wrap64 (rd l p))) + 1442695040888963407) / 1099511627776); omega) (by have := and255 (IntKind.u64.wrap (IntKind.u64.wrap (IntKind.u64.wrap (q * 6364136223846793005) + IntKind.u64.wrap (wrap64 (rd l p))) + 1442695040888963407) / 1099511627776); omega)]
        exact (and255 _).1
      · rw [w64 (by have := and255 (IntKind.u64.wrap (IntKind.u64.wrap (IntKind.u64.wrap (q * 6364136223846793005) + IntKind.u64.wrap (wrap64 (rd l p))) + 1442695040888963407) / 1099511627776); omega) (by have := and255 (IntKind.u64.wrap (IntKind.u64.wrap (IntKind.u64.wrap (q * 6364136223846793005) + IntKind.u64.wrap (wrap64 (rd l p))) + 1442695040888963407) / 1099511627776); omega)]
        exact (and255 _).2
  · rw [if_neg c]
    by_cases c2 : wrap64 (p + 1) ≤ (l.length : Int)
    · rw [if_pos c2]
      exact ⟨_, _, _, rfl, by omega, by omega, hat⟩
    · rw [if_neg c2]
      have key : ∀ y : Int, 0 ≤ wrap64 (Go.bits .and .u64 y 255) ∧ wrap64 (Go.bits .and .u64 y 255) ≤ 255 := by
        intro y
        have := and255 y
        rw [w64 (by omega) (by omega)]
        exact this
      exact ⟨_, _, _, rfl, (key _).1, (key _).2, hat⟩
theorem draw_pick {l : List Int} (hl : Byts l) {n : Nat} (hn : n < 4000000000) {p q : Int} (hp : At n p) (m : Int) (h1 : 1 ≤ m) (h2 : m ≤ 200) : ∃ v p' q', spec_l1Cur_pick.f l p q m = some (v, p', q') ∧ 0 ≤ v ∧ v < m ∧ At (n + 1) p' := by
  unfold spec_l1Cur_pick.f
  by_cases c : m ≤ 1
  · rw [if_pos c]
    exact ⟨_, _, _, rfl, by omega, by omega, ⟨hp.1, by have := hp.2; omega⟩⟩
  · obtain ⟨v, p', q', e, v1, v2, ha⟩ := draw_next hl hn (q := q) hp
    rw [if_neg c, e, obind, if_neg (show ¬ m > 200 by omega), if_neg (show ¬ m = 0 by omega)]
    refine ⟨_, _, _, rfl, ?_, ?_, ha⟩
    · show 0 ≤ Int.tmod v m
      exact Int.tmod_nonneg _ v1
    · show Int.tmod v m < m
      exact Int.tmod_lt_of_pos _ (by omega)
theorem draw_one {l : List Int} (hl : Byts l) {n : Nat} (hn : n < 4000000000) {p q : Int} (hp : At n p) (m : Int) (h1 : 1 ≤ m) (h2 : m ≤ 200) : ∃ b p' q', spec_l1Cur_one.f l p q m = some (b, p', q') ∧ At (n + 1) p' := by
  obtain ⟨v, p', q', e, _, _, ha⟩ := draw_pick hl hn (q := q) hp m h1 h2
  unfold spec_l1Cur_one.f
  rw [e, obind]
  exact ⟨_, _, _, rfl, ha⟩
theorem draw_of {l : List Int} (hl : Byts l) {n : Nat} (hn : n < 4000000000) {p q : Int} (hp : At n p) (t : List ByteArray) (h1 : 1 ≤ t.length) (h2 : t.length ≤ 200) (B : Nat) (hB : ∀ x ∈ t, x.size ≤ B) : ∃ v p' q', spec_l1Cur_of.f l p q t = some (v, p', q') ∧ v.size ≤ B ∧ At (n + 1) p' := by
  obtain ⟨v, p', q', e, v1, v2, ha⟩ := draw_pick hl hn (q := q) hp (t.length : Int) (by omega) (by omega)
  unfold spec_l1Cur_of.f
  rw [e, obind, if_pos v1, if_pos v2]
  refine ⟨_, _, _, rfl, ?_, ha⟩
  have hlt : v.toNat < t.length := by omega
  have e : rdOf ByteArray.empty t v = t[v.toNat] := by
    unfold rdOf
    rw [List.getD_eq_getElem?_getD, List.getElem?_eq_getElem hlt]
    rfl
  show (rdOf ByteArray.empty t v).size ≤ B
  rw [e]
  exact hB _ (List.getElem_mem hlt)
/-- A text of at most 8 bytes, or of 20 or 21. -/
def Few8 (v : ByteArray) : Prop := v.size ≤ 21 ∧ (v.size ≤ 8 ∨ 20 ≤ v.size)
theorem draw_ofP {l : List Int} (hl : Byts l) {n : Nat} (hn : n < 4000000000) {p q : Int} (hp : At n p) (t : List ByteArray) (h1 : 1 ≤ t.length) (h2 : t.length ≤ 200) (B : ByteArray → Prop) (hB : ∀ x ∈ t, B x) : ∃ v p' q', spec_l1Cur_of.f l p q t = some (v, p', q') ∧ B v ∧ At (n + 1) p' := by
  obtain ⟨v, p', q', e, v1, v2, ha⟩ := draw_pick hl hn (q := q) hp (t.length : Int) (by omega) (by omega)
  unfold spec_l1Cur_of.f
  rw [e, obind, if_pos v1, if_pos v2]
  refine ⟨_, _, _, rfl, ?_, ha⟩
  have hlt : v.toNat < t.length := by omega
  have e : rdOf ByteArray.empty t v = t[v.toNat] := by
    unfold rdOf
    rw [List.getD_eq_getElem?_getD, List.getElem?_eq_getElem hlt]
    rfl
  show B (rdOf ByteArray.empty t v)
  rw [e]
  exact hB _ (List.getElem_mem hlt)
theorem draw_among {l : List Int} (hl : Byts l) {n : Nat} (hn : n < 4000000000) {p q : Int} (hp : At n p) (t : List Int) (h1 : 1 ≤ t.length) (h2 : t.length ≤ 200) : ∃ v p' q', spec_l1Cur_among.f l p q t = some (v, p', q') ∧ v ∈ t ∧ At (n + 1) p' := by
  obtain ⟨v, p', q', e, v1, v2, ha⟩ := draw_pick hl hn (q := q) hp (t.length : Int) (by omega) (by omega)
  unfold spec_l1Cur_among.f
  rw [e, obind, if_pos v1, if_pos v2]
  refine ⟨_, _, _, rfl, ?_, ha⟩
  have hlt : v.toNat < t.length := by omega
  have e : rd t v = t[v.toNat] := by
    unfold rd
    rw [List.getD_eq_getElem?_getD, List.getElem?_eq_getElem hlt]
    rfl
  show rd t v ∈ t
  rw [e]
  exact List.getElem_mem hlt
theorem At.up {n m : Nat} {p : Int} (h : At n p) (hm : n ≤ m) : At m p := ⟨h.1, by have := h.2; omega⟩
def bitT : List ByteArray := [(⟨#[48]⟩ : ByteArray), (⟨#[49]⟩ : ByteArray)]
theorem draw_bit {l : List Int} (hl : Byts l) {n : Nat} (hn : n < 4000000000) {p q : Int} (hp : At n p) : ∃ v p' q', spec_l1Cur_of.f l p q [(⟨#[48]⟩ : ByteArray), (⟨#[49]⟩ : ByteArray)] = some (v, p', q') ∧ v.size ≤ 1 ∧ At (n + 1) p' :=
  draw_of hl hn hp _ (by simp) (by simp) 1 (by intro x hx; simp only [List.mem_cons, List.not_mem_nil, or_false] at hx; rcases hx with rfl | rfl <;> exact Nat.le_refl _)
theorem sure_l0 {l : List Int} (hl : Byts l) : ∀ (d n : Nat) (x : ByteArray) (p q : Int), n + d < 1000000 → x.size + d ≤ 1000000 → At n p → ∃ v p' q', Ev (fun k => spec_l1Cur_sureState.l0 k x (d : Int) l p q) (v, p', q') ∧ v.size ≤ x.size + d ∧ At (n + d) p' := by
  intro d
  induction d with
  | zero =>
    intro n x p q hn hx hp
    refine ⟨x, p, q, Ev.step (f := fun _ => some (x, p, q)) (fun k => ?_) (Ev.now _), Nat.le_refl _, hp⟩
    simp only [spec_l1Cur_sureState.l0]
    rw [if_neg (by simp)]
  | succ d ih =>
    intro n x p q hn hx hp
    obtain ⟨v, p1, q1, e, hv, ha⟩ := draw_bit hl (by omega : n < 4000000000) (q := q) hp
    obtain ⟨v2, p2, q2, e2, hv2, ha2⟩ := ih (n + 1) (x ++ v) p1 q1 (by omega) (by rw [ByteArray.size_append]; omega) ha
    rw [ByteArray.size_append] at hv2
    refine ⟨v2, p2, q2, Ev.step (fun k => ?_) e2, by omega, ha2.up (by omega)⟩
    simp only [spec_l1Cur_sureState.l0]
    rw [if_pos (by omega), e, obind, if_pos (show x.size + v.size ≤ 9223372036854775807 by omega), w64 (by omega) (by omega), show ((d + 1 : Nat) : Int) - 1 = (d : Int) from by omega]
theorem draw_sure {l : List Int} (hl : Byts l) {n : Nat} (hn : n < 200000) {p q : Int} (hp : At n p) (m : Nat) (h1 : 1 ≤ m) (h2 : m ≤ 200) : ∃ v p' q', Ev (fun k => spec_l1Cur_sureState.f k l p q (m : Int)) (v, p', q') ∧ v.size ≤ m ∧ At (n + m + 1) p' := by
  obtain ⟨v, p', q', e, v1, v2, ha⟩ := draw_pick hl (by omega : n < 4000000000) (q := q) hp (m : Int) (by omega) (by omega)
  obtain ⟨v3, p3, q3, e3, hv3, ha3⟩ := sure_l0 hl (v.toNat + 1) (n + 1) (⟨#[]⟩ : ByteArray) p' q' (by omega) (by show 0 + _ ≤ _; omega) ha
  refine ⟨v3, p3, q3, Ev.congr (fun k => ?_) e3, Nat.le_trans hv3 (by show 0 + _ ≤ _; omega), ha3.up (by omega)⟩
  show spec_l1Cur_sureState.f k l p q (m : Int) = _
  unfold spec_l1Cur_sureState.f
  rw [e, obind]
  show spec_l1Cur_sureState.l0 k _ (wrap64 (1 + v)) l p' q' = _
  rw [w64 (by omega) (by omega), show 1 + v = ((v.toNat + 1 : Nat) : Int) from by omega]
theorem draw_state {l : List Int} (hl : Byts l) {n : Nat} (hn : n < 100000) {p q : Int} (hp : At n p) : ∃ v p' q', Ev (fun k => spec_l1Cur_state.f k l p q) (v, p', q') ∧ Few8 v ∧ At (n + 10) p' := by
  obtain ⟨b, p1, q1, e1, ha1⟩ := draw_one hl (by omega : n < 4000000000) (q := q) hp 12 (by decide) (by decide)
  cases b with
  | true =>
    obtain ⟨v, p2, q2, e2, hv, ha2⟩ := draw_ofP hl (by omega : n + 1 < 4000000000) (q := q1) ha1 [(⟨#[]⟩ : ByteArray), (⟨#[50]⟩ : ByteArray), (⟨#[48, 120]⟩ : ByteArray), (⟨#[49, 49, 49, 49, 49, 49, 49, 49, 49, 49, 49, 49, 49, 49, 49, 49, 49, 49, 49, 49, 49]⟩ : ByteArray), (⟨#[49, 49, 49, 49, 49, 49, 49, 49, 49, 49, 49, 49, 49, 49, 49, 49, 49, 49, 49, 49]⟩ : ByteArray), (⟨#[48, 48, 48, 48, 48, 48, 48, 48, 48, 48, 48, 48, 48, 48, 48, 48, 48, 48, 48, 49]⟩ : ByteArray)] (by simp) (by simp) Few8 (by
      intro x hx
      simp only [List.mem_cons, List.not_mem_nil, or_false] at hx
      rcases hx with rfl | rfl | rfl | rfl | rfl | rfl <;> (unfold Few8; decide))
    refine ⟨v, p2, q2, Ev.congr (fun k => ?_) (Ev.now _), hv, ha2.up (by omega)⟩
    unfold spec_l1Cur_state.f
    rw [e1, obind, if_pos rfl]
    show (spec_l1Cur_of.f l p1 q1 _).bind _ = _
    rw [e2, obind]
  | false =>
    obtain ⟨v, p2, q2, e2, hv, ha2⟩ := draw_sure hl (by omega : n + 1 < 200000) (q := q1) ha1 8 (by decide) (by decide)
    refine ⟨v, p2, q2, ?_, ⟨Nat.le_trans hv (by decide), .inl hv⟩, ha2.up (by omega)⟩
    unfold spec_l1Cur_state.f
    rw [e1]
    refine Ev.congr (f := fun k => (spec_l1Cur_sureState.f k l p1 q1 8).bind fun b_ => some (b_.1, b_.2.1, b_.2.2)) (fun k => by rw [obind, if_neg Bool.false_ne_true]) (Ev.bind e2 (Ev.now _))
theorem width_pos (s : ByteArray) (pos : Nat) (h : pos < s.size) : 1 ≤ (Utf8.decode s pos).2 := by
  by_cases ha : (s[pos]'h).toNat < 128
  · rw [decode_ascii s pos h ha]
    exact Nat.le_refl _
  · exact (decode_high s pos h (by omega)).2
theorem states_l0 {l : List Int} (hl : Byts l) (a : ByteArray) : ∀ (d i n : Nat) (x : ByteArray) (p q : Int), a.size ≤ i + d → n + d < 1000000 → x.size + d ≤ 1000000 → At n p → ∃ v p' q', Ev (fun k => spec_l1Cur_states.l0 k a x i l p q) (a, v, p', q') ∧ v.size ≤ x.size + d ∧ At (n + d) p' := by
  have stop : ∀ (i : Nat) (x : ByteArray) (p q : Int), ¬ i < a.size → Ev (fun k => spec_l1Cur_states.l0 k a x i l p q) (a, x, p, q) := fun i x p q hi => by
    refine Ev.step (f := fun _ => some (a, x, p, q)) (fun k => ?_) (Ev.now _)
    simp only [spec_l1Cur_states.l0]
    rw [if_neg hi]
  intro d
  induction d with
  | zero =>
    intro i n x p q hi hn hx hp
    exact ⟨x, p, q, stop i x p q (by omega), Nat.le_refl _, hp⟩
  | succ d ih =>
    intro i n x p q hi hn hx hp
    by_cases c : i < a.size
    · obtain ⟨v, p1, q1, e, hv, ha⟩ := draw_bit hl (by omega : n < 4000000000) (q := q) hp
      have hw := width_pos a i c
      obtain ⟨v2, p2, q2, e2, hv2, ha2⟩ := ih (i + (Utf8.decode a i).2) (n + 1) (x ++ v) p1 q1 (by omega) (by omega) (by rw [ByteArray.size_append]; omega) ha
      rw [ByteArray.size_append] at hv2
      refine ⟨v2, p2, q2, Ev.step (fun k => ?_) e2, by omega, ha2.up (by omega)⟩
      simp only [spec_l1Cur_states.l0]
      rw [if_pos c, e, obind, if_pos (show x.size + v.size ≤ 9223372036854775807 by omega)]
    · exact ⟨x, p, q, stop i x p q c, by omega, hp.up (by omega)⟩
theorem draw_states {l : List Int} (hl : Byts l) {n : Nat} (hn : n < 10000) {p q : Int} (hp : At n p) : ∃ a b p' q', Ev (fun k => spec_l1Cur_states.f k l p q) (a, b, p', q') ∧ Few8 a ∧ At (n + 50) p' := by
  obtain ⟨a, p1, q1, e1, hs, ha1⟩ := draw_state hl (by omega : n < 100000) (q := q) hp
  obtain ⟨b, p2, q2, e2, ha2⟩ := draw_one hl (by omega : n + 10 < 4000000000) (q := q1) ha1 12 (by decide) (by decide)
  cases b with
  | true =>
    obtain ⟨b, p3, q3, e3, hb, ha3⟩ := draw_state hl (by omega : n + 10 + 1 < 100000) (q := q2) ha2
    refine ⟨a, b, p3, q3, ?_, hs, ha3.up (by omega)⟩
    unfold spec_l1Cur_states.f
    refine Ev.bind e1 (Ev.congr (fun k => by rw [show spec_l1Cur_one.f l (a, p1, q1).2.1 (a, p1, q1).2.2 12 = _ from e2, obind, if_pos rfl]) (Ev.bind e3 (Ev.now _)))
  | false =>
    obtain ⟨b, p3, q3, e3, hb, ha3⟩ := states_l0 hl a a.size 0 (n + 11) (⟨#[]⟩ : ByteArray) p2 q2 (by omega) (by have := hs.1; omega) (by have := hs.1; show 0 + _ ≤ _; omega) (ha2.up (by omega))
    refine ⟨a, b, p3, q3, ?_, hs, ha3.up (by have := hs.1; omega)⟩
    unfold spec_l1Cur_states.f
    refine Ev.bind e1 (Ev.congr (fun k => by rw [show spec_l1Cur_one.f l (a, p1, q1).2.1 (a, p1, q1).2.2 12 = _ from e2, obind, if_neg Bool.false_ne_true]) e3)
theorem pair_l0 {l : List Int} (hl : Byts l) : ∀ (d n : Nat) (x y : ByteArray) (p q : Int), n + 2 * d < 1000000 → x.size + d ≤ 1000000 → y.size + d ≤ 1000000 → At n p → ∃ v w p' q', Ev (fun k => spec_l1Cur_pair.l0 k (d : Int) x y l p q) (v, w, p', q') ∧ v.size ≤ x.size + d ∧ At (n + 2 * d) p' := by
  intro d
  induction d with
  | zero =>
    intro n x y p q hn hx hy hp
    refine ⟨x, y, p, q, Ev.step (f := fun _ => some (x, y, p, q)) (fun k => ?_) (Ev.now _), Nat.le_refl _, hp⟩
    simp only [spec_l1Cur_pair.l0]
    rw [if_neg (by simp)]
  | succ d ih =>
    intro n x y p q hn hx hy hp
    obtain ⟨v, p1, q1, e, hv, ha⟩ := draw_bit hl (by omega : n < 4000000000) (q := q) hp
    obtain ⟨v', p1', q1', e', hv', ha'⟩ := draw_bit hl (by omega : n + 1 < 4000000000) (q := q1) ha
    obtain ⟨v2, w2, p2, q2, e2, hv2, ha2⟩ := ih (n + 2) (x ++ v) (y ++ v') p1' q1' (by omega) (by rw [ByteArray.size_append]; omega) (by rw [ByteArray.size_append]; omega) ha'
    rw [ByteArray.size_append] at hv2
    refine ⟨v2, w2, p2, q2, Ev.step (fun k => ?_) e2, by omega, ha2.up (by omega)⟩
    simp only [spec_l1Cur_pair.l0]
    rw [if_pos (by omega), e, obind, if_pos (show x.size + v.size ≤ 9223372036854775807 by omega)]
    show (spec_l1Cur_of.f l p1 q1 _).bind _ = _
    rw [e', obind, if_pos (show y.size + v'.size ≤ 9223372036854775807 by omega), w64 (by omega) (by omega), show ((d + 1 : Nat) : Int) - 1 = (d : Int) from by omega]
theorem draw_pair {l : List Int} (hl : Byts l) {n : Nat} (hn : n < 1000) {p q : Int} (hp : At n p) : ∃ a b p' q', Ev (fun k => spec_l1Cur_pair.f k l p q) (a, b, p', q') ∧ Few8 a ∧ At (n + 60) p' := by
  obtain ⟨b, p1, q1, e1, ha1⟩ := draw_one hl (by omega : n < 4000000000) (q := q) hp 8 (by decide) (by decide)
  cases b with
  | true =>
    obtain ⟨a, b, p2, q2, e2, h8, ha2⟩ := draw_states hl (by omega : n + 1 < 10000) (q := q1) ha1
    refine ⟨a, b, p2, q2, ?_, h8, ha2.up (by omega)⟩
    unfold spec_l1Cur_pair.f
    rw [e1]
    exact Ev.congr (fun k => by rw [obind, if_pos rfl]) (Ev.bind e2 (Ev.now _))
  | false =>
    obtain ⟨v, p2, q2, e2, v1, v2, ha2⟩ := draw_pick hl (by omega : n + 1 < 4000000000) (q := q1) ha1 6 (by decide) (by decide)
    obtain ⟨a, b, p3, q3, e3, hs3, ha3⟩ := pair_l0 hl (v.toNat + 2) (n + 1 + 1) (⟨#[]⟩ : ByteArray) (⟨#[]⟩ : ByteArray) p2 q2 (by omega) (by show 0 + _ ≤ _; omega) (by show 0 + _ ≤ _; omega) ha2
    refine ⟨a, b, p3, q3, ?_, ?_, ha3.up (by omega)⟩
    rotate_left
    · have hz : a.size ≤ 0 + (v.toNat + 2) := hs3
      exact ⟨by omega, .inl (by omega)⟩
    unfold spec_l1Cur_pair.f
    rw [e1]
    refine Ev.congr (fun k => ?_) e3
    rw [obind, if_neg Bool.false_ne_true, show spec_l1Cur_pick.f l (false, p1, q1).2.1 (false, p1, q1).2.2 6 = _ from e2, obind]
    show spec_l1Cur_pair.l0 k (wrap64 (2 + v)) _ _ l p2 q2 = _
    rw [w64 (by omega) (by omega), show 2 + v = ((v.toNat + 2 : Nat) : Int) from by omega]
/-- A list of moves. -/
theorem moves_j1 {l : List Int} (hl : Byts l) {n : Nat} (hn : n < 100000) {p q : Int} (hp : At n p) (x : List Int) (hx : x.length ≤ 1000) : ∃ ms p' q', Ev (fun k => spec_l1Cur_moves.j1 k x l p q) (ms, p', q') ∧ ms.length ≤ 1001 := by
  obtain ⟨b, p1, q1, e1, ha1⟩ := draw_one hl (by omega : n < 4000000000) (q := q) hp 4 (by decide) (by decide)
  cases b with
  | true =>
    obtain ⟨v, p2, q2, e2, _, _⟩ := draw_among hl (by omega : n + 1 < 4000000000) (q := q1) ha1 [0, 1, 2, 5, (-1), 20, 4611686018427387904] (by simp) (by simp)
    refine ⟨x ++ [v], p2, q2, Ev.step (f := fun _ => some (x ++ [v], p2, q2)) (fun k => ?_) (Ev.now _), by rw [List.length_append, List.length_singleton]; omega⟩
    simp only [spec_l1Cur_moves.j1]
    rw [e1, obind, if_pos rfl]
    show (spec_l1Cur_among.f l p1 q1 _).bind _ = _
    rw [e2, obind, if_pos (by omega)]
  | false =>
    refine ⟨x, p1, q1, Ev.step (f := fun _ => some (x, p1, q1)) (fun k => ?_) (Ev.now _), by omega⟩
    simp only [spec_l1Cur_moves.j1]
    rw [e1, obind, if_neg Bool.false_ne_true]
theorem mvR_pos {l : List UInt8} (h : 1 ≤ l.length) : 1 ≤ (mvR l).length := by
  have : 0 ∈ mvR l := List.mem_filter.2 ⟨List.mem_range.2 h, rfl⟩
  exact List.length_pos_of_mem this
theorem moves_l0 {l : List Int} (hl : Byts l) : ∀ (d n : Nat) (x : List Int) (a : ByteArray) (p q : Int), n + d < 10000 → x.length + d ≤ 1000 → At n p → ∃ ms p' q', Ev (fun k => spec_l1Cur_moves.l0 k x a (d : Int) l p q) (ms, p', q') ∧ ms.length ≤ 1001 := by
  intro d
  induction d with
  | zero =>
    intro n x a p q hn hx hp
    obtain ⟨ms, p', q', e, h⟩ := moves_j1 hl (by omega : n < 100000) (q := q) hp x (by omega)
    refine ⟨ms, p', q', Ev.step (fun k => ?_) e, h⟩
    simp only [spec_l1Cur_moves.l0]
    rw [if_neg (by simp)]
  | succ d ih =>
    intro n x a p q hn hx hp
    have hg := riGood a
    cases hs : isSt a.data.toList with
    | false =>
      rw [hs] at hg
      obtain ⟨ms, p', q', e, h⟩ := moves_j1 hl (by omega : n < 100000) (q := q) hp x (by omega)
      refine ⟨ms, p', q', ev_num2 hg e (Ev.now _) (fun k g1 g2 => ?_), h⟩
      simp only [spec_l1Cur_moves.l0]
      rw [if_pos (by omega), g1, obind, if_neg Bool.false_ne_true, g2]
    | true =>
      rw [hs] at hg
      obtain ⟨s1, s20, so⟩ := isSt_len hs
      have hm := riMoves a s20 so
      have hml := mvR_len a.data.toList
      have hmp : 1 ≤ (ints (mvR a.data.toList)).length := by
        have := mvR_pos s1
        unfold ints
        rw [List.length_map]
        exact this
      obtain ⟨v, p1, q1, e1, v1, v2, ha1⟩ := draw_pick hl (by omega : n < 4000000000) (q := q) hp ((ints (mvR a.data.toList)).length : Int) (by omega) (by omega)
      obtain ⟨j, rfl⟩ := Int.eq_ofNat_of_zero_le v1
      have v2 : j < (ints (mvR a.data.toList)).length := Int.ofNat_lt.1 v2
      obtain ⟨m, hmj, hmm⟩ : ∃ m : Nat, rd (ints (mvR a.data.toList)) ((j : Nat) : Int) = (m : Int) ∧ m < a.data.toList.length := by
        rw [rd_get v2]
        unfold ints at v2 ⊢
        rw [List.length_map] at v2
        rw [List.getElem_map]
        exact ⟨_, rfl, List.mem_range.1 (List.mem_filter.1 (List.getElem_mem v2)).1⟩
      have hmv := riMove a.data.toList s20 so m hmm
      rw [tx_self] at hmv
      obtain ⟨ms, p', q', e, h⟩ := ih (n + 1) (x ++ [(m : Int)]) (tx (flipAt a.data.toList m)) p1 q1 (by omega) (by rw [List.length_append, List.length_singleton]; omega) ha1
      refine ⟨ms, p', q', ev_num2 hg hm e (fun k g1 g2 => ?_), h⟩
      simp only [spec_l1Cur_moves.l0]
      rw [if_pos (by omega), g1, obind, if_pos rfl, g2, obind]
      show ((spec_l1Cur_pick.f l p q _).bind _) = _
      rw [e1, obind]
      show (if 0 ≤ ((j : Nat) : Int) then _ else _) = _
      rw [if_pos (Int.natCast_nonneg _), if_pos (Int.ofNat_lt.2 v2), if_pos (by omega)]
      show ((spec_riMove.f a (rd (ints (mvR a.data.toList)) ((j : Nat) : Int))).bind fun t => spec_l1Cur_moves.l0 k (x ++ [rd (ints (mvR a.data.toList)) ((j : Nat) : Int)]) t (wrap64 (((d + 1 : Nat) : Int) - 1)) l p1 q1) = _
      rw [hmj, hmv, obind, w64 (by omega) (by omega), show ((d + 1 : Nat) : Int) - 1 = (d : Int) from by omega]
theorem draw_moves {l : List Int} (hl : Byts l) {n : Nat} (hn : n < 1000) {p q : Int} (hp : At n p) (a : ByteArray) : ∃ ms p' q', Ev (fun k => spec_l1Cur_moves.f k l p q a) (ms, p', q') ∧ ms.length ≤ 1001 := by
  obtain ⟨v, p1, q1, e1, v1, v2, ha1⟩ := draw_pick hl (by omega : n < 4000000000) (q := q) hp 12 (by decide) (by decide)
  obtain ⟨j, rfl⟩ := Int.eq_ofNat_of_zero_le v1
  obtain ⟨ms, p', q', e, h⟩ := moves_l0 hl j (n + 1) [] a p1 q1 (by omega) (by rw [List.length_nil]; omega) ha1
  refine ⟨ms, p', q', ?_, h⟩
  unfold spec_l1Cur_moves.f
  rw [e1]
  exact Ev.congr (fun k => by rw [obind]) e
end Go.Proofs.YtppbohghongfmaaDoor.Lem
