/-
  Parsed keys: the law holds.
-/
import Derived.Test.YthjkjlfobgegpaaDoorLemStrSK
import Derived.Test.YthjkjlfobgegpaaDoorPKx5
import Derived.Lib.SplitLaws
namespace Go.Proofs.YthjkjlfobgegpaaDoor.Lem
open Go.RowKit Go.Proofs.YthjkjlfobgegpaaDoor.PK Go.Proofs.YthjkjlfobgegpaaDoorW.PrintWords Go.Proofs.YthjkjlfobgegpaaDoorW.PrintLast Go.Proofs.YthjkjlfobgegpaaDoorW.PrintMore Go.Proofs.YthjkjlfobgegpaaDoor.Ring
set_option linter.unusedVariables false
set_option linter.unusedSimpArgs false

/-- A text cut at one sign. -/
def ptA (c : UInt8) : Stt → Stt → List Stt
  | cur, [] => [cur]
  | cur, b :: l => if b = c then cur :: ptA c [] l else ptA c (cur ++ [b]) l
def glue (cur : Stt) : List Stt → List Stt
  | [] => []
  | x :: r => (cur ++ x) :: r
theorem glue_nil (l : List Stt) : glue [] l = l := by cases l <;> rfl
theorem glue_glue (a b : Stt) (l : List Stt) : glue a (glue b l) = glue (a ++ b) l := by cases l <;> simp [glue]
theorem split_eq (c : UInt8) : ∀ (l : Stt), Go.Lib.split l [c] = glue [] (Go.Lib.split l [c])
  | l => (glue_nil _).symm
theorem split_nil (c : UInt8) : Go.Lib.split [] [c] = [[]] := by
  unfold Go.Lib.split
  rw [Go.Lib.count_one]
  rfl
theorem split_eq_cons (c : UInt8) (l : Stt) : Go.Lib.split (c :: l) [c] = [] :: Go.Lib.split l [c] := by
  unfold Go.Lib.split
  have hix : Go.Lib.index (c :: l) [c] = 0 := by rw [Go.Lib.index]; simp [List.isPrefixOf]
  rw [Go.Lib.count_cons_eq, Nat.add_comm 1 (Go.Lib.count l [c]), Go.Lib.splitK, hix, if_neg (by decide)]
  rfl
theorem split_ne_cons (b c : UInt8) (l : Stt) (h : b ≠ c) : Go.Lib.split (b :: l) [c] = glue [b] (Go.Lib.split l [c]) := by
  have hp : ([c] : List UInt8).isPrefixOf (b :: l) = false := by simp [List.isPrefixOf, Ne.symm h]
  have hix : Go.Lib.index (b :: l) [c] = if Go.Lib.index l [c] == -1 then -1 else Go.Lib.index l [c] + 1 := by rw [Go.Lib.index, hp]; simp
  unfold Go.Lib.split
  rw [Go.Lib.count_cons_ne b c l h]
  cases hn : Go.Lib.count l [c] with
  | zero => rfl
  | succ n =>
    unfold Go.Lib.splitK
    by_cases hm : Go.Lib.index l [c] = -1
    · rw [hix, hm, if_pos (by decide), if_pos (by decide)]
      rfl
    · have hge := Go.Lib.index_ge l [c]
      obtain ⟨j, hj⟩ : ∃ j : Nat, Go.Lib.index l [c] = j := ⟨(Go.Lib.index l [c]).toNat, by omega⟩
      have hb1 : ¬ ((Go.Lib.index l [c] == -1) = true) := fun e => hm (beq_iff_eq.1 e)
      have hix' : Go.Lib.index (b :: l) [c] = ((j + 1 : Nat) : Int) := by rw [hix, if_neg hb1, hj]; omega
      have hb2 : ¬ ((Go.Lib.index (b :: l) [c] == -1) = true) := fun e => by have := beq_iff_eq.1 e; omega
      rw [if_neg hb2, if_neg hb1, hix', hj]
      rfl
theorem split_ptA (c : UInt8) : ∀ (l cur : Stt), glue cur (Go.Lib.split l [c]) = ptA c cur l
  | [], cur => by
    rw [split_nil]
    simp [glue, ptA]
  | b :: l, cur => by
    by_cases h : b = c
    · subst h
      rw [split_eq_cons, ptA, if_pos rfl, ← split_ptA b l [], glue_nil]
      simp [glue]
    · rw [split_ne_cons b c l h, glue_glue, split_ptA c l (cur ++ [b]), ptA, if_neg h]
/-- The parts' lengths, and one more sign for each but the first. -/
theorem ptA_sum (c : UInt8) : ∀ (l cur : Stt), ((ptA c cur l).map List.length).sum + (ptA c cur l).length = cur.length + l.length + 1
  | [], cur => by simp [ptA]
  | b :: l, cur => by
    rw [ptA]
    split
    · have := ptA_sum c l []
      simp only [List.map_cons, List.sum_cons, List.length_cons, List.length_nil] at this ⊢
      omega
    · have := ptA_sum c l (cur ++ [b])
      rw [this]
      simp only [List.length_append, List.length_cons, List.length_nil]
      omega
theorem ptA_len (c : UInt8) (l cur : Stt) : (ptA c cur l).length ≤ cur.length + l.length + 1 := by
  have := ptA_sum c l cur
  omega
theorem sum_le (m : Nat) : ∀ (L : List Stt), (∀ x ∈ L, x.length ≤ m) → (L.map List.length).sum ≤ m * L.length
  | [], _ => by simp
  | x :: L, h => by
    have h1 := sum_le m L (fun y hy => h y (List.mem_cons_of_mem _ hy))
    have h2 := h x List.mem_cons_self
    simp only [List.map_cons, List.sum_cons, List.length_cons]
    rw [Nat.mul_succ]
    omega
theorem big_bad (l : Stt) (h : 110 < l.length) : keysOk (ptA 47 [] l) = false := by
  cases hk : keysOk (ptA 47 [] l) with
  | false => rfl
  | true =>
    exfalso
    obtain ⟨⟨k1, k2⟩, k3⟩ := keys_parts hk
    have hs := ptA_sum 47 l []
    have h10 : ∀ x ∈ ptA 47 [] l, x.length ≤ 10 := by
      intro x hx
      obtain ⟨i, hi, rfl⟩ := List.getElem_of_mem hx
      rw [(k3 i hi).1]
      exact k2
    have := sum_le 10 _ h10
    rw [List.length_nil] at hs
    omega
theorem isSlash (c : UInt8) : ((c.toNat : Int) = 47) ↔ c = 47 := toNat_eq (n := 47) (by decide)
theorem l1Split (l : Stt) (hl : l.length ≤ 1048576) : Ev (fun k => spec_l1Split.f k (tx l) 47) ((ptA 47 [] l).map tx) := by
  have go : ∀ d i from_ (acc : List ByteArray), i + d = l.length → from_ ≤ i → acc.length ≤ i → Ev (fun k => spec_l1Split.l0 k (tx l) 47 acc (from_ : Int) (i : Int)) (acc ++ (ptA 47 ((l.take i).drop from_) (l.drop i)).map tx) := by
    intro d
    induction d with
    | zero =>
      intro i fr acc hi hf ha
      obtain rfl : i = l.length := by omega
      refine Ev.step (f := fun _ => some (acc ++ (ptA 47 ((l.take l.length).drop fr) (l.drop l.length)).map tx)) (fun k => ?_) (Ev.now _)
      simp only [spec_l1Split.l0]
      rw [tx_size, if_neg (Int.lt_irrefl _), if_pos (Int.natCast_nonneg _), if_pos (Int.ofNat_le.2 hf), if_pos (show acc.length < 8796093022208 by omega), Int.toNat_natCast, cut_tx, List.drop_length]
      rfl
    | succ d ih =>
      intro i fr acc hi hf ha
      have hil : i < l.length := by omega
      have hd : l.drop i = l[i] :: l.drop (i + 1) := List.drop_eq_getElem_cons hil
      by_cases h47 : l[i] = 47
      · have h := ih (i + 1) (i + 1) (acc ++ [tx ((l.take i).drop fr)]) (by omega) (Nat.le_refl _) (by rw [List.length_append, List.length_singleton]; omega)
        have e0 : (l.take (i + 1)).drop (i + 1) = [] := List.drop_of_length_le (by rw [List.length_take]; omega)
        have e1 : acc ++ (ptA 47 ((l.take i).drop fr) (l.drop i)).map tx = (acc ++ [tx ((l.take i).drop fr)]) ++ (ptA 47 ((l.take (i + 1)).drop (i + 1)) (l.drop (i + 1))).map tx := by
          rw [hd, ptA, if_pos h47, e0, List.map_cons, List.append_assoc]
          rfl
        rw [e1]
        refine Ev.step (fun k => ?_) h
        simp only [spec_l1Split.l0]
        rw [tx_size, if_pos (Int.ofNat_lt.2 hil), if_pos (Int.natCast_nonneg _), bt_tx hil, if_pos ((isSlash _).2 h47), if_pos (Int.natCast_nonneg _), if_pos (Int.ofNat_le.2 hf), if_pos (Int.ofNat_le.2 (Nat.le_of_lt hil)), if_pos (show acc.length < 8796093022208 by omega), Int.toNat_natCast, Int.toNat_natCast, cut_tx, succ64 (by omega)]
      · have h := ih (i + 1) fr acc (by omega) (by omega) (by omega)
        have e1 : acc ++ (ptA 47 ((l.take i).drop fr) (l.drop i)).map tx = acc ++ (ptA 47 ((l.take (i + 1)).drop fr) (l.drop (i + 1))).map tx := by
          have e0 : (l.take (i + 1)).drop fr = (l.take i).drop fr ++ [l[i]] := by
            rw [List.take_succ_eq_append_getElem hil, List.drop_append_of_le_length (by rw [List.length_take]; omega)]
          rw [hd, ptA, if_neg h47, e0]
        rw [e1]
        refine Ev.step (fun k => ?_) h
        simp only [spec_l1Split.l0]
        rw [tx_size, if_pos (Int.ofNat_lt.2 hil), if_pos (Int.natCast_nonneg _), bt_tx hil, if_neg (fun e => h47 ((isSlash _).1 e)), succ64 (by omega)]
  have h := go l.length 0 0 [] (Nat.zero_add _) (Nat.le_refl _) (Nat.le_refl _)
  unfold spec_l1Split.f
  exact h
theorem libSplit (l : Stt) (hl : l.length ≤ 1048576) : strings_Split.f (tx l) (⟨#[47]⟩ : ByteArray) = some ((ptA 47 [] l).map tx) := by
  have e : Go.Lib.splitB ⟨#[47]⟩ 0 (Go.Lib.countB (tx l) ⟨#[47]⟩) (tx l) = (ptA 47 [] l).map tx := by
    have h := Go.Lib.splitB_data ⟨#[47]⟩ 0 (Go.Lib.countB (tx l) ⟨#[47]⟩) (tx l)
    have h2 : Go.Lib.splitK (⟨#[47]⟩ : ByteArray).data.toList 0 (Go.Lib.countB (tx l) ⟨#[47]⟩) (tx l).data.toList = Go.Lib.split (tx l).data.toList [47] := rfl
    rw [h2, tx_data, ← glue_nil (Go.Lib.split l [47]), split_ptA] at h
    rw [← h, List.map_map]
    have : (tx ∘ fun b : ByteArray => b.data.toList) = id := by funext b; exact tx_self b
    rw [this, List.map_id]
  have e1 : strings_Split.f (tx l) (⟨#[47]⟩ : ByteArray) = if (tx l).size < 4294967281 then some (Go.Lib.splitB ⟨#[47]⟩ 0 (Go.Lib.countB (tx l) ⟨#[47]⟩) (tx l)) else none := rfl
  rw [e1, tx_size, if_pos (by omega), e]
theorem both_parse (l : Stt) (hl : l.length ≤ 1048576) : ∃ R, R.1.length ≤ 1048576 ∧ Ev (fun k => spec_ParseKeys.f k (tx l)) R ∧ Ev (fun k => impl_ParseKeys.f k (tx l)) R := by
  have hpl := ptA_len 47 l []
  rw [List.length_nil] at hpl
  refine ⟨if keysOk (ptA 47 [] l) = true then ((ptA 47 [] l).map tx, true) else ([], false), ?_, ?_, ?_⟩
  · cases hk : keysOk (ptA 47 [] l) with
    | false => rw [if_neg (by simp)]; exact Nat.zero_le _
    | true =>
      rw [if_pos rfl, List.length_map]
      have := (keys_parts hk).1.2
      omega
  · unfold spec_ParseKeys.f
    have h : Ev (fun k => spec_keParse.f k (tx l)) (if keysOk (ptA 47 [] l) = true then ((ptA 47 [] l).map tx, true) else ([], false)) := by
      unfold spec_keParse.f
      rw [tx_size]
      by_cases h110 : 110 < l.length
      · rw [big_bad l h110, if_neg (by simp)]
        exact Ev.congr (fun k => if_pos (by omega)) (Ev.now _)
      · refine Ev.congr (fun k => if_neg (by omega)) (Ev.bind (l1Split l hl) (Ev.bind (keGood _ (by omega)) ?_))
        cases hk : keysOk (ptA 47 [] l) with
        | false => exact Ev.congr (fun k => if_neg (by simp)) (Ev.now _)
        | true => exact Ev.congr (fun k => if_pos rfl) (Ev.now _)
    exact Ev.bind (f := fun _ t => some (t.1, t.2)) h (Ev.now _)
  · unfold impl_ParseKeys.f
    rw [libSplit l hl]
    refine Ev.congr (fun k => obind _ _) (Ev.bind (areKeys _ (by omega)) ?_)
    cases hk : keysOk (ptA 47 [] l) with
    | false => exact Ev.congr (fun k => if_neg (by simp)) (Ev.now _)
    | true => exact Ev.congr (fun k => if_pos rfl) (Ev.now _)
end Go.Proofs.YthjkjlfobgegpaaDoor.Lem
namespace Go.Proofs.YthjkjlfobgegpaaDoor.Pure
open Go.RowKit Go.Proofs.YthjkjlfobgegpaaDoor.Lem Go.Proofs.YthjkjlfobgegpaaDoor.PK Go.Proofs.YthjkjlfobgegpaaDoorW.PrintWords Go.Proofs.YthjkjlfobgegpaaDoorW.PrintLast Go.Proofs.YthjkjlfobgegpaaDoorW.PrintMore

theorem FnExactParseKeys : laws_FnExactParseKeys.Pure := by
  intro s hz
  have key : Ev (fun k => laws_FnExactParseKeys.f k s) true := by
    unfold laws_FnExactParseKeys.f
    by_cases d0 : (s.size : Int) > 1048576
    · exact Ev.congr (fun k => if_pos d0) (Ev.now _)
    refine Ev.congr (fun k => if_neg d0) ?_
    have hs : s.data.toList.length ≤ 1048576 := by rw [← size_eq]; omega
    obtain ⟨R, hR, e1, e2⟩ := both_parse s.data.toList hs
    rw [tx_self] at e1 e2
    have he := eqStringS R.1 hR
    obtain ⟨mr, hn1, hn2⟩ := marks R.1 (by omega)
    have hne : (R.2 != R.2) = false := by rw [bne_self_eq_false]
    refine Ev.bind e1 (Ev.bind e2 (Ev.bind he ?_))
    refine Ev.congr (fun k => by rw [if_pos rfl, hne]) ?_
    refine Ev.step (fun k => by simp only [laws_FnExactParseKeys.j0]; rw [if_neg Bool.false_ne_true]) (Ev.bind hn1 (Ev.bind hn2 ?_))
    refine Ev.congr (fun k => by rw [if_neg (by omega), if_pos rfl]) (Ev.bind e2 (Ev.bind he ?_))
    refine Ev.congr (fun k => by rw [if_pos rfl, hne]) ?_
    refine Ev.step (fun k => by simp only [laws_FnExactParseKeys.j1]; rw [if_neg Bool.false_ne_true]) (Ev.bind hn2 ?_)
    exact Ev.congr (fun k => by rw [if_neg (by omega), if_pos rfl]) (Ev.now _)
  obtain ⟨K, h⟩ := key
  exact ⟨K, h K (Nat.le_refl _)⟩
end Go.Proofs.YthjkjlfobgegpaaDoor.Pure
