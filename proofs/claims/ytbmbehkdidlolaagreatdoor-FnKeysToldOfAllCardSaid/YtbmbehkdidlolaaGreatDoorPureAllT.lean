/-
  Keys of the bar and free keys, states of numbers and their moves: what the functions answer; texts are read back.
  Keys as a whole: the longest, the parts, the links, a line, turned keys, texts, the bar's keys and free ones, whatever is given: the law of all of them holds.
-/
import Derived.Test.YtbmbehkdidlolaaGreatDoorLemGgT
import Derived.Test.YtbmbehkdidlolaaGreatDoorPTx15
namespace Go.Proofs.YtbmbehkdidlolaaGreatDoor.Lem
open Go.RowKit Go.Proofs.YtbmbehkdidlolaaGreatDoor.PT Go.Proofs.YtbmbehkdidlolaaGreatDoorW.PrintWords Go.Proofs.YtbmbehkdidlolaaGreatDoorW.PrintLast Go.Proofs.YtbmbehkdidlolaaGreatDoorW.PrintMore Go.Proofs.YtbmbehkdidlolaaGreatDoor.Ring Go.Proofs.YtbmbehkdidlolaaGreatDoor.Bfs
set_option linter.unusedVariables false
set_option linter.unusedSimpArgs false

theorem rep_one (c : UInt8) (m : Nat) (hm : m ≤ 1000) : strings_Repeat.f (⟨#[c]⟩ : ByteArray) (m : Int) = some (tx (List.replicate m c)) := by
  unfold strings_Repeat.f
  rw [if_pos ⟨Int.natCast_nonneg m, by omega, by show 1 ≤ 100000; decide⟩, Int.toNat_natCast]
  have e : ∀ m : Nat, Lib.repeatL [c] m = List.replicate m c := by
    intro m
    induction m with
    | zero => rfl
    | succ m ih =>
      have h : Lib.repeatL [c] (m + 1) = [c] ++ Lib.repeatL [c] m := by
        simp [Lib.repeatL, List.replicate_succ]
      rw [h, ih]
      rfl
  show some (⟨(Lib.repeatL [c] m).toArray⟩ : ByteArray) = _
  rw [e m]
  rfl
theorem tx_one (c : UInt8) : (⟨#[c]⟩ : ByteArray) = tx [c] := rfl
theorem barKey {n k : Nat} (hn : n ≤ 10) (hk : k < n) : impl_barKey.f (n : Int) (k : Int) = some (tx (barK n k)) := by
  unfold impl_barKey.f barK
  by_cases c : k = 0
  · rw [if_pos (by omega), if_pos c, rep_one 63 n (by omega), obind]
  · have e1 : wrap64 ((k : Int) - 1) = ((k - 1 : Nat) : Int) := by rw [w64 (by omega) (by omega)]; omega
    have e2 : wrap64 ((n : Int) - (k : Int)) = ((n - k : Nat) : Int) := by rw [w64 (by omega) (by omega)]; omega
    rw [if_neg (by omega), if_neg c, e1, e2, rep_one 48 (k - 1) (by omega), obind, if_pos (by rw [tx_size, List.length_replicate]; omega), rep_one 63 (n - k) (by omega), obind, tx_one, app_tx, if_pos (by rw [tx_size, tx_size, List.length_append, List.length_replicate, List.length_replicate, List.length_singleton]; omega), app_tx]
theorem bar_take (n k : Nat) : (List.range (k + 1)).map (barK n) = (List.range k).map (barK n) ++ [barK n k] := by
  rw [List.range_succ, List.map_append]
  rfl
theorem implBars {n : Nat} (hn : n ≤ 10) : ∀ d i, i + d = n → Ev (fun k => impl_BarKeys.l0 k (n : Int) (((List.range i).map (barK n)).map tx) (n : Int) (i : Int)) ((barKs n).map tx, true) := by
  intro d
  induction d with
  | zero =>
    intro i hi
    obtain rfl : i = n := by omega
    refine Ev.step (f := fun _ => some ((barKs i).map tx, true)) (fun k => ?_) (Ev.now _)
    simp only [impl_BarKeys.l0]
    rw [if_neg (Int.lt_irrefl _)]
    rfl
  | succ d ih =>
    intro i hi
    refine Ev.step (fun k => ?_) (ih (i + 1) (by omega))
    simp only [impl_BarKeys.l0]
    rw [if_pos (Int.ofNat_lt.2 (by omega)), barKey hn (by omega), obind, if_pos (by rw [List.length_map, List.length_map, List.length_range]; omega), succ64 (by omega), bar_take, List.map_append]
    rfl
theorem riAll_l0 (c : UInt8) : ∀ (d : Nat) (x : Stt), x.length + d ≤ 1000000 → Ev (fun k => spec_riAll.l0 k (d : Int) (tx [c]) (tx x)) (tx (x ++ List.replicate d c)) := by
  intro d
  induction d with
  | zero =>
    intro x hx
    refine Ev.step (f := fun _ => some (tx (x ++ List.replicate 0 c))) (fun k => ?_) (Ev.now _)
    simp only [spec_riAll.l0]
    rw [if_neg (by simp), List.replicate_zero, List.append_nil]
  | succ d ih =>
    intro x hx
    have e := ih (x ++ [c]) (by rw [List.length_append, List.length_singleton]; omega)
    rw [List.append_assoc] at e
    refine Ev.step (fun k => ?_) e
    simp only [spec_riAll.l0]
    rw [if_pos (by omega), if_pos (by rw [tx_size, tx_size, List.length_singleton]; omega), app_tx, w64 (by omega) (by omega), show ((d + 1 : Nat) : Int) - 1 = (d : Int) from by omega]
theorem riAll (c : UInt8) (d : Nat) (hd : d ≤ 1000) : Ev (fun k => spec_riAll.f k (d : Int) (⟨#[c]⟩ : ByteArray)) (tx (List.replicate d c)) := by
  have h := riAll_l0 c d [] (by rw [List.length_nil]; omega)
  rw [List.nil_append] at h
  exact h
theorem specBars {n : Nat} (hn : n ≤ 10) : ∀ d i, i + d = n → Ev (fun k => spec_BarKeys.l0 k (n : Int) (((List.range i).map (barK n)).map tx) (i : Int)) ((barKs n).map tx, true) := by
  intro d
  induction d with
  | zero =>
    intro i hi
    obtain rfl : i = n := by omega
    refine Ev.step (f := fun _ => some ((barKs i).map tx, true)) (fun k => ?_) (Ev.now _)
    simp only [spec_BarKeys.l0]
    rw [if_neg (Int.lt_irrefl _)]
    rfl
  | succ d ih =>
    intro i hi
    have h3 := ih (i + 1) (by omega)
    have e2 : wrap64 ((n : Int) - (i : Int)) = ((n - i : Nat) : Int) := by rw [w64 (by omega) (by omega)]; omega
    have hlen : (((List.range i).map (barK n)).map tx).length < 8796093022208 := by rw [List.length_map, List.length_map, List.length_range]; omega
    have h1 := riAll 63 (n - i) (by omega)
    by_cases c : i = 0
    · have eb : barK n i = List.replicate (n - i) 63 := by unfold barK; rw [if_pos c, c, Nat.sub_zero]
      refine ev_num h1 h3 (fun k hk => ?_)
      simp only [spec_BarKeys.l0]
      rw [if_pos (Int.ofNat_lt.2 (by omega)), e2, hk, obind, if_neg (by omega), if_pos hlen, succ64 (by omega), bar_take, List.map_append, eb]
      rfl
    · have e1 : wrap64 ((i : Int) - 1) = ((i - 1 : Nat) : Int) := by rw [w64 (by omega) (by omega)]; omega
      have eb : barK n i = (List.replicate (i - 1) 48 ++ [49]) ++ List.replicate (n - i) 63 := by unfold barK; rw [if_neg c]
      have h2 := riAll 48 (i - 1) (by omega)
      obtain ⟨K1, g1⟩ := h1
      obtain ⟨K2, g2⟩ := h2
      obtain ⟨K3, g3⟩ := h3
      have g1 : ∀ k, K1 ≤ k → spec_riAll.f k ((n - i : Nat) : Int) (⟨#[63]⟩ : ByteArray) = some (tx (List.replicate (n - i) 63)) := g1
      have g2 : ∀ k, K2 ≤ k → spec_riAll.f k ((i - 1 : Nat) : Int) (⟨#[48]⟩ : ByteArray) = some (tx (List.replicate (i - 1) 48)) := g2
      refine ⟨K1 + K2 + K3 + 1, fun m hm => ?_⟩
      obtain ⟨k, rfl⟩ : ∃ k, m = k + 1 := ⟨m - 1, by omega⟩
      have g3 := g3 k (by omega)
      simp only [spec_BarKeys.l0]
      rw [if_pos (Int.ofNat_lt.2 (by omega)), e2, g1 k (by omega), obind, if_pos (by omega), e1, g2 k (by omega), obind, if_pos (by rw [tx_size, List.length_replicate]; omega), tx_one, app_tx, if_pos (by rw [tx_size, tx_size, List.length_append, List.length_replicate, List.length_replicate, List.length_singleton]; omega), app_tx, if_pos hlen, succ64 (by omega)]
      rw [bar_take, List.map_append, eb] at g3
      exact g3
def barV (n : Int) : List ByteArray × Bool := if 1 ≤ n ∧ n ≤ 10 then ((barKs n.toNat).map tx, true) else ([], false)
theorem bars_both (n : Int) : Ev (fun k => spec_BarKeys.f k n) (barV n) ∧ Ev (fun k => impl_BarKeys.f k n) (barV n) := by
  unfold barV
  by_cases c : 1 ≤ n ∧ n ≤ 10
  · obtain ⟨m, rfl⟩ := Int.eq_ofNat_of_zero_le (show 0 ≤ n by omega)
    rw [if_pos c, Int.toNat_natCast]
    refine ⟨?_, ?_⟩
    · unfold spec_BarKeys.f spec_keRings.f
      refine Ev.congr (fun k => ?_) (specBars (n := m) (by omega) m 0 (Nat.zero_add _))
      rw [l1In_eq, obind, obind, if_pos (by rw [decide_eq_true_eq]; omega)]
      rfl
    · unfold impl_BarKeys.f
      refine Ev.congr (fun k => ?_) (implBars (n := m) (by omega) m 0 (Nat.zero_add _))
      rw [in_eq, obind, if_pos (by rw [decide_eq_true_eq]; omega)]
      rfl
  · rw [if_neg c]
    refine ⟨?_, ?_⟩
    · unfold spec_BarKeys.f spec_keRings.f
      exact Ev.congr (fun k => by rw [l1In_eq, obind, obind, if_neg (by rw [decide_eq_true_eq]; exact c)]) (Ev.now _)
    · unfold impl_BarKeys.f
      exact Ev.congr (fun k => by rw [in_eq, obind, if_neg (by rw [decide_eq_true_eq]; exact c)]) (Ev.now _)
theorem specFree {n : Nat} (hn : n ≤ 10) : ∀ d i, i + d = n → Ev (fun k => spec_FreeKeys.l0 k (n : Int) ((List.replicate i (List.replicate n 63)).map tx) (i : Int)) ((freeKs n).map tx, true) := by
  intro d
  induction d with
  | zero =>
    intro i hi
    obtain rfl : i = n := by omega
    refine Ev.step (f := fun _ => some ((freeKs i).map tx, true)) (fun k => ?_) (Ev.now _)
    simp only [spec_FreeKeys.l0]
    rw [if_neg (Int.lt_irrefl _)]
    rfl
  | succ d ih =>
    intro i hi
    refine ev_num (riAll 63 n (by omega)) (ih (i + 1) (by omega)) (fun k hk => ?_)
    simp only [spec_FreeKeys.l0]
    rw [if_pos (Int.ofNat_lt.2 (by omega)), hk, obind, if_pos (by rw [List.length_map, List.length_replicate]; omega), succ64 (by omega), List.replicate_succ', List.map_append]
    rfl
def freeV (n : Int) : List ByteArray × Bool := if 1 ≤ n ∧ n ≤ 10 then ((freeKs n.toNat).map tx, true) else ([], false)
theorem free_spec (n : Int) : Ev (fun k => spec_FreeKeys.f k n) (freeV n) := by
  unfold freeV spec_FreeKeys.f spec_keRings.f
  by_cases c : 1 ≤ n ∧ n ≤ 10
  · obtain ⟨m, rfl⟩ := Int.eq_ofNat_of_zero_le (show 0 ≤ n by omega)
    rw [if_pos c, Int.toNat_natCast]
    refine Ev.congr (fun k => ?_) (specFree (n := m) (by omega) m 0 (Nat.zero_add _))
    rw [l1In_eq, obind, obind, if_pos (by rw [decide_eq_true_eq]; omega)]
    rfl
  · rw [if_neg c]
    exact Ev.congr (fun k => by rw [l1In_eq, obind, obind, if_neg (by rw [decide_eq_true_eq]; exact c)]) (Ev.now _)
theorem free_impl (n : Int) : impl_FreeKeys.f n = some (freeV n) := by
  unfold freeV impl_FreeKeys.f
  by_cases c : 1 ≤ n ∧ n ≤ 10
  · obtain ⟨m, rfl⟩ := Int.eq_ofNat_of_zero_le (show 0 ≤ n by omega)
    rw [if_pos c, in_eq, obind, if_pos (by rw [decide_eq_true_eq]; omega), rep_one 63 m (by omega), obind]
    unfold slices_Repeat_string_string.f
    rw [if_pos ⟨rfl, c.1, c.2⟩, obind, Int.toNat_natCast]
    show some (List.replicate m (tx (List.replicate m 63)), true) = some ((List.replicate m (List.replicate m 63)).map tx, true)
    rw [List.map_replicate]
  · rw [if_neg c, in_eq, obind, if_neg (by rw [decide_eq_true_eq]; exact c)]
/-! ### Texts read back -/
def jn : List Stt → Stt
  | [] => []
  | x :: r => x ++ Go.Lib.joinTail [47] r
theorem tail_cons (y : Stt) (r : List Stt) : Go.Lib.joinTail [47] (y :: r) = 47 :: (y ++ Go.Lib.joinTail [47] r) := by simp [Go.Lib.joinTail]
theorem txK_jn {ks : List Stt} (h : 1 ≤ ks.length) : txK ks ks.length = jn ks := by
  cases ks with
  | nil => simp at h
  | cons x r =>
    have h2 := txK_cons x r r.length (Nat.le_refl _)
    rw [List.take_length] at h2
    exact h2
theorem ptA_free (m : Stt) : ∀ (x cur : Stt), (∀ c ∈ x, c ≠ 47) → ptA 47 cur (x ++ m) = ptA 47 (cur ++ x) m
  | [], cur, _ => by rw [List.append_nil]; rfl
  | b :: x, cur, h => by
    show ptA 47 cur (b :: (x ++ m)) = _
    rw [ptA, if_neg (h b List.mem_cons_self), ptA_free m x (cur ++ [b]) (fun c hc => h c (List.mem_cons_of_mem _ hc)), List.append_assoc]
    rfl
theorem ptA_tail : ∀ (r : List Stt) (cur : Stt), (∀ y ∈ r, ∀ c ∈ y, c ≠ 47) → ptA 47 cur (Go.Lib.joinTail [47] r) = cur :: r
  | [], cur, _ => rfl
  | y :: r, cur, h => by
    rw [tail_cons, ptA, if_pos rfl, ptA_free _ y [] (h y List.mem_cons_self), List.nil_append, ptA_tail r y (fun z hz => h z (List.mem_cons_of_mem _ hz))]
theorem okk_ne {c : UInt8} (h : okk c = true) : c ≠ 47 := by rcases (okk_or c).1 h with rfl | rfl | rfl <;> decide
theorem keys_free {ks : List Stt} (hk : keysOk ks = true) : ∀ y ∈ ks, ∀ c ∈ y, c ≠ 47 := by
  intro y hy c hc
  obtain ⟨k, hkl, rfl⟩ := List.getElem_of_mem hy
  exact okk_ne (List.all_eq_true.1 ((keys_parts hk).2 k hkl).2.2 c hc)
theorem parse_text {ks : List Stt} (hk : keysOk ks = true) : ptA 47 [] (txK ks ks.length) = ks := by
  obtain ⟨⟨k1, k2⟩, _⟩ := keys_parts hk
  have hf := keys_free hk
  rw [txK_jn k1]
  cases ks with
  | nil => simp at k1
  | cons x r =>
    show ptA 47 [] (x ++ Go.Lib.joinTail [47] r) = _
    rw [ptA_free _ x [] (hf x List.mem_cons_self), List.nil_append, ptA_tail r x (fun z hz => hf z (List.mem_cons_of_mem _ hz))]
theorem jn_ptA : ∀ (l cur : Stt), jn (ptA 47 cur l) = cur ++ l
  | [], cur => by
    show cur ++ [] = _
    rfl
  | b :: l, cur => by
    by_cases h : b = 47
    · subst h
      have e : ∀ L : List Stt, L ≠ [] → Go.Lib.joinTail [47] L = 47 :: jn L := fun L hL => by
        cases L with
        | nil => exact absurd rfl hL
        | cons y r => exact tail_cons y r
      have hne : ptA 47 [] l ≠ [] := by
        intro h
        have h2 := ptA_sum 47 l []
        rw [h] at h2
        simp at h2
      rw [ptA, if_pos rfl]
      show cur ++ Go.Lib.joinTail [47] (ptA 47 [] l) = _
      rw [e _ hne, jn_ptA l [], List.nil_append]
    · rw [ptA, if_neg h, jn_ptA l (cur ++ [b]), List.append_assoc]
      rfl
theorem text_parse {l : Stt} (hk : keysOk (ptA 47 [] l) = true) : textV (ptA 47 [] l) = (tx l, true) := by
  unfold textV
  rw [if_pos hk, txK_jn (keys_parts hk).1.1, jn_ptA, List.nil_append]
/-! ### Numbers and states -/
theorem tnK_rv (ks : List Stt) : tnK ks 0 = (rvK ks).map tx := by
  unfold tnK rvK
  rw [List.drop_zero, List.map_map]
  rfl
theorem yTexts_l0 (l : List ByteArray) (hl : l.length ≤ 10000000) : ∀ d i, i + d = l.length → Ev (fun k => laws_yTexts.l0 k l l (l.length : Int) (i : Int)) true := by
  intro d
  induction d with
  | zero =>
    intro i hi
    refine Ev.step (f := fun _ => some true) (fun k => ?_) (Ev.now _)
    simp only [laws_yTexts.l0]
    rw [if_neg (by omega)]
  | succ d ih =>
    intro i hi
    have hil' : (i : Int) < (l.length : Int) := Int.ofNat_lt.2 (by omega)
    refine Ev.step (fun k => ?_) (ih (i + 1) (by omega))
    simp only [laws_yTexts.l0]
    rw [if_pos hil', if_pos (Int.natCast_nonneg _), if_pos hil', if_pos hil', if_pos trivial, succ64 (by omega)]
theorem yTexts (l : List ByteArray) (hl : l.length ≤ 10000000) : Ev (fun k => laws_yTexts.f k l l) true := by
  unfold laws_yTexts.f
  exact Ev.congr (fun k => if_pos rfl) (yTexts_l0 l hl l.length 0 (Nat.zero_add _))
theorem ySame_l0 (l : List Int) (hl : l.length ≤ 1000000) : ∀ d i, i + d = l.length → Ev (fun k => laws_ySame.l0 k l l (l.length : Int) (i : Int)) true := by
  intro d
  induction d with
  | zero =>
    intro i hi
    refine Ev.step (f := fun _ => some true) (fun k => ?_) (Ev.now _)
    simp only [laws_ySame.l0]
    rw [if_neg (by omega)]
  | succ d ih =>
    intro i hi
    have hil' : (i : Int) < (l.length : Int) := Int.ofNat_lt.2 (by omega)
    refine Ev.step (fun k => ?_) (ih (i + 1) (by omega))
    simp only [laws_ySame.l0]
    rw [if_pos hil', if_pos (Int.natCast_nonneg _), if_pos hil', if_pos hil', if_pos trivial, succ64 (by omega)]
theorem ySame (l : List Int) (hl : l.length ≤ 1000000) : Ev (fun k => laws_ySame.f k l l) true := by
  unfold laws_ySame.f
  exact Ev.congr (fun k => if_pos rfl) (ySame_l0 l hl l.length 0 (Nat.zero_add _))
theorem isState (s : ByteArray) : impl_IsState.f s = some (isSt s.data.toList) := by
  unfold impl_IsState.f isSt
  rw [in_eq, ← size_eq]
  simp only [obind]
  by_cases h1 : 1 ≤ s.size
  · by_cases h2 : s.size ≤ 20
    · rw [if_pos (by simp; omega)]
      rw [show (⟨#[48, 49]⟩ : ByteArray) = ⟨[48, 49].toArray⟩ from rfl, trim_eq s [48, 49] (by omega) (by decide) (by decide)]
      simp only [obind]
      rw [toList_nil]
      have e : (s.data.toList.all ([48, 49].contains ·)) = s.data.toList.all okc := by
        congr 1
        funext c
        simp only [okc, List.contains_cons, List.contains_nil, Bool.or_false]
      rw [show decide (Lib.trimS s.data.toList [48, 49] = []) = (s.data.toList.all ([48, 49].contains ·)) from by
        rw [Bool.eq_iff_iff]; simpa using trimS_nil s.data.toList [48, 49], e]
      simp [h1, h2]
    · rw [if_neg (by simp; omega)]
      simp [h2]
  · rw [if_neg (by simp; omega)]
    simp [h1]
theorem canMove (s : ByteArray) (hs : s.data.toList.length ≤ 20) (k : Nat) (hk : k < s.data.toList.length) : impl_canMove.f s (k : Int) = some (canR s.data.toList k) := by
  unfold impl_canMove.f
  have e := size_eq s
  by_cases h0 : k = 0
  · subst h0
    exact if_pos rfl
  · rw [if_neg (by omega), in_eq, e, pred64 (by omega) (by omega), pred64 (by omega) (by omega), obind, if_pos (by simp; omega), if_pos (by omega), if_pos (by omega)]
    have hlt : k - 1 < s.data.toList.length := by omega
    obtain ⟨c, hc⟩ : ∃ c, s.data.toList[k - 1]? = some c := ⟨_, List.getElem?_eq_getElem hlt⟩
    have hb := bt_opt hc
    rw [hb]
    have e1 : ((k - 1 : Nat) : Int).toNat = k - 1 := rfl
    by_cases h49 : c = 49
    · rw [if_pos ((is49 c).2 h49), if_pos (by omega), e1, show (⟨#[48]⟩ : ByteArray) = ⟨[48].toArray⟩ from rfl, trim_eq (s.extract 0 (k - 1)) [48] (by rw [size_eq, extract_list]; simp; omega) (by decide) (by decide), obind, toList_nil, extract_list, List.drop_zero]
      have : decide (Lib.trimS (s.data.toList.take (k - 1)) [48] = []) = (s.data.toList.take (k - 1)).all (· == 48) := by
        rw [Bool.eq_iff_iff, decide_eq_true_eq, trimS_nil]
        have : (fun c : UInt8 => [48].contains c) = (fun c : UInt8 => c == 48) := by
          funext c
          simp only [List.contains_cons, List.contains_nil, Bool.or_false]
        rw [this]
      rw [this]
      unfold canR
      rw [hc, h49, decide_eq_true hk, show (k == 0) = false from by simpa using h0]
      simp
    · rw [if_neg (fun h => h49 ((is49 c).1 h))]
      congr 1
      unfold canR
      rw [hc]
      simp [h0, h49]
/-- The rings below a bound that can be moved. -/
def mvU (l : List UInt8) (n : Nat) : List Nat := (List.range n).filter (canR l)
theorem mvU_succ (l : List UInt8) (n : Nat) : mvU l (n + 1) = if canR l n = true then mvU l n ++ [n] else mvU l n := by
  unfold mvU
  rw [List.range_succ, List.filter_append]
  by_cases h : canR l n = true
  · rw [if_pos h]; simp [h]
  · rw [if_neg h]; simp [h]
theorem mvU_len (l : List UInt8) (n : Nat) : (mvU l n).length ≤ n := by
  have := List.length_filter_le (canR l) (List.range n)
  rw [List.length_range] at this
  exact this
theorem movesOf (s : ByteArray) (hs : s.data.toList.length ≤ 20) : Ev (fun j => impl_movesOf.f j s) (ints (mvR s.data.toList)) := by
  have e := size_eq s
  have main : ∀ (d n : Nat), n + d = s.data.toList.length → Ev (fun j => impl_movesOf.l0 j s (ints (mvU s.data.toList n)) (s.data.toList.length : Int) (n : Int)) (ints (mvR s.data.toList)) := by
    intro d
    induction d with
    | zero =>
      intro n hd
      refine Ev.step (f := fun _ => some (ints (mvR s.data.toList))) (fun k => ?_) (Ev.now _)
      simp only [impl_movesOf.l0]
      rw [if_neg (by omega)]
      have : n = s.data.toList.length := by omega
      subst this
      rfl
    | succ d ih =>
      intro n hd
      have h2 := ih (n + 1) (by omega)
      have hlt : n < s.data.toList.length := by omega
      have hl := mvU_len s.data.toList n
      rw [mvU_succ] at h2
      refine Ev.step (f := fun k => if canR s.data.toList n = true then (impl_movesOf.l0 k s (ints (mvU s.data.toList n) ++ [(n : Int)]) (s.data.toList.length : Int) ((n + 1 : Nat) : Int)) else impl_movesOf.l0 k s (ints (mvU s.data.toList n)) (s.data.toList.length : Int) ((n + 1 : Nat) : Int)) (fun k => ?_) ?_
      · simp only [impl_movesOf.l0]
        rw [if_pos (by omega), canMove s hs n hlt, obind, succ64 (by omega)]
        have hlen : (ints (mvU s.data.toList n)).length < 17592186044416 := by unfold ints; rw [List.length_map]; omega
        simp only [if_pos hlen]
      · by_cases h : canR s.data.toList n = true
        · rw [if_pos h] at h2
          unfold ints at h2 ⊢
          rw [List.map_append] at h2
          exact Ev.congr (fun k => if_pos h) h2
        · rw [if_neg h] at h2
          exact Ev.congr (fun k => if_neg h) h2
  unfold impl_movesOf.f
  rw [e]
  exact main s.data.toList.length 0 (by omega)
theorem sign_xor (n j : Nat) : ((n ^^^ n / 2) / 2 ^ j) % 2 = if n / 2 ^ j % 2 = n / 2 ^ (j + 1) % 2 then 0 else 1 := by
  have h : (n ^^^ n / 2).testBit j = (n.testBit j ^^ (n / 2).testBit j) := Nat.testBit_xor _ _ _
  rw [← Nat.testBit_succ] at h
  simp only [Nat.testBit_eq_decide_div_mod_eq] at h
  have a1 : n / 2 ^ j % 2 = 0 ∨ n / 2 ^ j % 2 = 1 := by omega
  have a2 : n / 2 ^ (j + 1) % 2 = 0 ∨ n / 2 ^ (j + 1) % 2 = 1 := by omega
  have a3 : (n ^^^ n / 2) / 2 ^ j % 2 = 0 ∨ (n ^^^ n / 2) / 2 ^ j % 2 = 1 := by omega
  rcases a1 with a1 | a1 <;> rcases a2 with a2 | a2 <;> rcases a3 with a3 | a3 <;> simp [a1, a2, a3] at h ⊢
theorem xor_natS (a b : Nat) (ha : a < 4611686018427387904) (hb : b < 4611686018427387904) : Go.bits .xor .i64 (a : Int) (b : Int) = ((a ^^^ b : Nat) : Int) := by
  have ha' : a % 2 ^ 64 = a := Nat.mod_eq_of_lt (by omega)
  have hb' : b % 2 ^ 64 = b := Nat.mod_eq_of_lt (by omega)
  have hx : a ^^^ b < 2 ^ 62 := Nat.xor_lt_two_pow (by omega) (by omega)
  have hk : IntKind.i64.bits = 64 := rfl
  simp only [Go.bits, hk, BitVec.ofInt_natCast, BitVec.toNat_xor, BitVec.toNat_ofNat, ha', hb']
  exact wrap_i64 (by omega) (by omega)
theorem state_l0 (r n : Nat) (hr : r ≤ 60) (hn : n < 4611686018427387904) : ∀ (d j k : Nat) (x : List Int), j ≤ r → r - j = d → d < k → x.length = r → (∀ i, i < j → x[i]? = some ((sign n i).toNat : Int)) →
    impl_state.l0 k (((n ^^^ n / 2 : Nat)) : Int) x (r : Int) (j : Int) = some ⟨(stOf r n).toArray⟩ := by
  have hx62 : n ^^^ n / 2 < 2 ^ 62 := Nat.xor_lt_two_pow (by omega) (by omega)
  intro d
  induction d with
  | zero =>
    intro j k x hj hd hk hl hx
    obtain ⟨k, rfl⟩ : ∃ j, k = j + 1 := ⟨k - 1, by omega⟩
    have : j = r := by omega
    subst this
    simp only [impl_state.l0]
    rw [if_neg (by omega)]
    have e : x = (stOf j n).map fun b => (b.toNat : Int) := by
      apply List.ext_getElem?
      intro i
      by_cases hi : i < j
      · rw [hx i hi]
        simp [stOf, hi]
      · rw [List.getElem?_eq_none (by omega), List.getElem?_eq_none (by simp [stOf]; omega)]
    rw [e, Go.Lib.Lz.strOfNums_map]
  | succ d ih =>
    intro j k x hj hd hk hl hx
    obtain ⟨k, rfl⟩ : ∃ j, k = j + 1 := ⟨k - 1, by omega⟩
    have ew : wrap64 ((j : Int) + 1) = ((j + 1 : Nat) : Int) := by rw [w64 (by omega) (by omega)]; omega
    simp only [impl_state.l0]
    rw [if_pos (by omega), if_pos (by omega), if_pos (by omega), ew, shr_nat _ _ (by omega), and_one _ (div_lt_big _ j (by omega)), sign_xor]
    apply ih (j + 1) k _ (by omega) (by omega) (by omega) (by simpa using hl)
    intro i hi
    have ej : (j : Int).toNat = j := rfl
    rw [ej]
    by_cases hij : i = j
    · subst hij
      rw [List.getElem?_set_self (by omega)]
      unfold sign
      split <;> rfl
    · rw [List.getElem?_set_ne (by omega)]
      exact hx i (by omega)
theorem state (r n : Nat) (hr : r ≤ 60) (hn : n < 4611686018427387904) : Ev (fun k => impl_state.f k (r : Int) (n : Int)) ⟨(stOf r n).toArray⟩ := by
  refine Ev.of (k := r + 1) (fun k => impl_state.mono _ _ k) ?_
  unfold impl_state.f
  have er : (r : Int).toNat = r := rfl
  rw [if_pos (by omega), er, if_pos (by omega), tdiv_two, w64 (by omega) (by omega), xor_natS _ _ (by omega) (by omega)]
  simp only [obind, List.length_replicate]
  exact state_l0 r n hr hn r 0 (r + 1) _ (by omega) (by omega) (by omega) (by simp) (fun i hi => absurd hi (by omega))
theorem isSt_okN {n : Nat} (h1 : 1 ≤ n) (h20 : n ≤ 20) {s : Stt} (hs : okN n s) : isSt s = true := by
  unfold isSt
  rw [hs.2, hs.1, decide_eq_true h1, decide_eq_true h20]
  rfl
theorem movesV {n : Nat} (h1 : 1 ≤ n) (h20 : n ≤ 20) {s : Stt} (hs : okN n s) : Ev (fun k => impl_MovesOf.f k (tx s)) (ints (mvR s), true) := by
  have h := movesOf (tx s) (by rw [tx_data, hs.1]; exact h20)
  rw [tx_data] at h
  unfold impl_MovesOf.f
  refine Ev.congr (fun k => ?_) (Ev.bind (f := fun _ t => some (t, true)) h (Ev.now _))
  rw [isState, tx_data, isSt_okN h1 h20 hs, obind, if_pos rfl]
theorem stateV {n m : Nat} (h1 : 1 ≤ n) (h20 : n ≤ 20) (hm : m < 2 ^ n) : Ev (fun k => impl_StateOfNumber.f k (n : Int) (m : Int)) (tx (stOf n m), true) := by
  have hp : 2 ^ n ≤ 2 ^ 20 := Nat.pow_le_pow_right (by decide) h20
  have h220 : (2 : Nat) ^ 20 = 1048576 := by decide
  have h := state n m (by omega) (by omega)
  unfold impl_StateOfNumber.f
  refine Ev.congr (fun k => ?_) (Ev.bind (f := fun _ t => some (t, true)) h (Ev.now _))
  rw [in_eq, obind, if_pos (by rw [decide_eq_true_eq]; omega), if_pos (Int.natCast_nonneg n), shl_one n (by omega), pred64 (by omega) (by omega), in_eq, obind, if_pos (by rw [decide_eq_true_eq]; omega)]
theorem keyedOne (ks : List Stt) (s : Stt) (hk : keysOk ks = true) (hs : okN ks.length s) : Ev (fun k => impl_KeyedMoves.f k (ks.map tx) (tx s)) (ints (mvK ks s ks.length), true) := by
  obtain ⟨⟨k1, k2⟩, _⟩ := keys_parts hk
  have hst := isSt_okN k1 (by omega) hs
  unfold impl_KeyedMoves.f
  refine Ev.bind (a := true) ?_ (Ev.congr (fun k => if_pos rfl) (Ev.bind (f := fun _ t => some (t, true)) (keyedMoves hk hs) (Ev.now _)))
  have h := areKeys ks (by omega)
  rw [hk] at h
  unfold impl_keyed.f
  refine Ev.bind h (Ev.congr (fun k => if_pos rfl) ?_)
  have hr : ∀ k, impl_keyed_1.rule (ks.map tx) k (tx s) = some false := fun k => by
    unfold impl_keyed_1.rule
    rw [isState, tx_data, hst, obind, if_pos rfl, tx_size, List.length_map, hs.1]
    simp
  refine ⟨10, fun k hk10 => ?_⟩
  obtain ⟨j, rfl⟩ : ∃ j, k = j + 2 := ⟨k - 2, by omega⟩
  have hi : slices_IndexFunc_string_string.l0 (impl_keyed_1.rule (ks.map tx)) (j + 2) [tx s] 1 0 = some (-1) := by
    simp only [slices_IndexFunc_string_string.l0]
    rw [if_pos (by decide), if_pos (by decide), if_pos (by show (0 : Int) < 1; decide)]
    show (impl_keyed_1.rule (ks.map tx) (j + 1) (tx s)).bind _ = _
    rw [hr, obind, if_neg Bool.false_ne_true, if_neg (by rw [w64 (by decide) (by decide)]; decide)]
  show ((slices_ContainsFunc_string_string.f (impl_keyed_1.rule (ks.map tx)) (j + 2) [tx s]).bind fun b => some (!b)) = _
  unfold slices_ContainsFunc_string_string.f slices_IndexFunc_string_string.f
  show (((slices_IndexFunc_string_string.l0 (impl_keyed_1.rule (ks.map tx)) (j + 2) [tx s] 1 0).bind _).bind _) = _
  rw [hi]
  rfl
end Go.Proofs.YtbmbehkdidlolaaGreatDoor.Lem
namespace Go.Proofs.YtbmbehkdidlolaaGreatDoor.Lem
open Go.RowKit Go.Proofs.YtbmbehkdidlolaaGreatDoor.PT Go.Proofs.YtbmbehkdidlolaaGreatDoorW.PrintWords Go.Proofs.YtbmbehkdidlolaaGreatDoorW.PrintLast Go.Proofs.YtbmbehkdidlolaaGreatDoorW.PrintMore Go.Proofs.YtbmbehkdidlolaaGreatDoor.Ring Go.Proofs.YtbmbehkdidlolaaGreatDoor.Bfs
set_option linter.unusedVariables false
set_option linter.unusedSimpArgs false

theorem ev_at {α : Type} {g : Nat → Option α} {r : α} (h : Ev g r) : ∃ K, ∀ k, K ≤ k → g k = some r := h
theorem nn (x : Bool) : ¬ ((x != x) = true) := by rw [bne_self_eq_false]; exact Bool.false_ne_true
theorem told_tail (l : Stt) : Ev (fun k => if (parseV l).2 = true then ((impl_KeysText.f k (parseV l).1).bind fun bt456 => (if bt456.2 = true then (some (bt456.1.toList == (tx l).toList)) else (none))) else (some true)) true := by
  by_cases hk : keysOk (ptA 47 [] l) = true
  · have e : parseV l = ((ptA 47 [] l).map tx, true) := if_pos hk
    have h10 := (keys_parts hk).1.2
    have h := (text_both (ptA 47 [] l) (by omega)).2
    rw [text_parse hk] at h
    rw [e]
    exact Ev.congr (fun k => if_pos rfl) (Ev.bind h (Ev.congr (fun k => by rw [if_pos rfl, beq_self_eq_true]) (Ev.now _)))
  · have e : parseV l = ([], false) := if_neg hk
    rw [e]
    exact Ev.congr (fun k => if_neg Bool.false_ne_true) (Ev.now _)
theorem told_l0 (l : Stt) {n : Nat} (h1 : 1 ≤ n) (h5 : n ≤ 5) : ∀ (d i : Nat), i + d = 2 ^ n → Ev (fun k => laws_FnKeysToldOfAll.l0 k (n : Int) (tx l) ((barKs n).map tx) (parseV l).1 (parseV l).2 (i : Int)) true := by
  have h32 : 2 ^ n ≤ 32 := Nat.pow_le_pow_right (by decide) h5
  have hk : keysOk (barKs n) = true := bar_ok ⟨n, by omega⟩ h1
  have hbl := barKs_len n
  have hsh : shl .i64 1 (n : Int) = ((2 ^ n : Nat) : Int) := shl_one n (by omega)
  intro d
  induction d with
  | zero =>
    intro i hi
    refine Ev.step (fun k => ?_) (told_tail l)
    simp only [laws_FnKeysToldOfAll.l0]
    rw [if_pos (Int.natCast_nonneg n), hsh, if_neg (by omega)]
  | succ d ih =>
    intro i hi
    have hs : okN n (stOf n i) := ⟨stOf_length _ _, stOf_ok _ _⟩
    have hb := List.all_eq_true.1 (bar_moves ⟨n, by omega⟩) (stOf n i) (tsK_mem n _ hs)
    have hb2 : mvK (barKs n) (stOf n i) n = mvR (stOf n i) := by simpa using hb
    have e3 := keyedOne (barKs n) (stOf n i) hk (by rw [hbl]; exact hs)
    rw [hbl, hb2] at e3
    have hml : (mvR (stOf n i)).length ≤ n := by rw [← hb2]; exact mvK_len _ _ _
    obtain ⟨K1, g1⟩ := ev_at (stateV h1 (by omega : n ≤ 20) (by omega : i < 2 ^ n))
    obtain ⟨K2, g2⟩ := ev_at (movesV h1 (by omega : n ≤ 20) hs)
    obtain ⟨K3, g3⟩ := ev_at e3
    obtain ⟨K4, g4⟩ := ev_at (ySame (ints (mvR (stOf n i))) (by rw [ints_len]; omega))
    obtain ⟨K5, g5⟩ := ev_at (ih (i + 1) (by omega))
    refine ⟨K1 + K2 + K3 + K4 + K5 + 1, fun m hm => ?_⟩
    obtain ⟨k, rfl⟩ : ∃ k, m = k + 1 := ⟨m - 1, by omega⟩
    simp only [laws_FnKeysToldOfAll.l0]
    rw [if_pos (Int.natCast_nonneg n), hsh, if_pos (Int.ofNat_lt.2 (by omega)), g1 k (by omega), obind]
    show ((impl_MovesOf.f k (tx (stOf n i))).bind _) = _
    rw [g2 k (by omega), obind]
    show ((impl_KeyedMoves.f k ((barKs n).map tx) (tx (stOf n i))).bind _) = _
    rw [g3 k (by omega), obind, if_pos rfl, if_pos rfl, if_pos rfl, g4 k (by omega), obind, if_pos rfl, succ64 (by omega)]
    exact g5 k (by omega)
theorem told_j4 (l : Stt) {n : Nat} (h1 : 1 ≤ n) (h10 : n ≤ 10) : Ev (fun k => laws_FnKeysToldOfAll.j4 k (n : Int) (tx l) ((barKs n).map tx) ((freeKs n).map tx) (parseV l).1 (parseV l).2 (decide ((n : Int) ≤ 5))) true := by
  by_cases h5 : n ≤ 5
  · have hb := bar_deg ⟨n, by omega⟩ h1
    have hk : keysOk (barKs n) = true := bar_ok ⟨n, by omega⟩ h1
    have hkf : keysOk (freeKs n) = true := free_ok ⟨n, by omega⟩ h1
    have e1 := (line_both (barKs n) (by rw [barKs_len]; omega)).2
    have l1 : lineV (barKs n) = (true, true) := by
      unfold lineV
      rw [if_pos hk]
      have b1 : big (degN (barKs n)) = false := hb.1
      have b2 : ends (degN (barKs n)) = 2 := hb.2
      rw [b1, b2, bar_parts h1 h5]
      rfl
    rw [l1] at e1
    have e2 := (long_both (freeKs n) (by rw [freeKs_len]; omega)).2
    have l2 : longV (freeKs n) = ((n : Int), true) := by
      unfold longV
      rw [if_pos hkf, free_long h1 h5]
    rw [l2] at e2
    have e3 : Ev (fun k => laws_FnKeysToldOfAll.j5 k (n : Int) (tx l) ((barKs n).map tx) (parseV l).1 (parseV l).2 ((n : Int) != (n : Int))) true := by
      refine Ev.step (fun k => ?_) (told_l0 l h1 h5 (2 ^ n) 0 (Nat.zero_add _))
      simp only [laws_FnKeysToldOfAll.j5]
      rw [if_neg (by rw [bne_self_eq_false]; exact Bool.false_ne_true)]
      rfl
    obtain ⟨K1, g1⟩ := ev_at e1
    obtain ⟨K2, g2⟩ := ev_at e2
    obtain ⟨K3, g3⟩ := ev_at e3
    refine ⟨K1 + K2 + K3 + 1, fun m hm => ?_⟩
    obtain ⟨k, rfl⟩ : ∃ k, m = k + 1 := ⟨m - 1, by omega⟩
    simp only [laws_FnKeysToldOfAll.j4]
    rw [if_pos (decide_eq_true (by omega)), g1 k (by omega), obind, g2 k (by omega), obind, if_pos rfl, if_pos rfl, if_pos rfl]
    exact g3 k (by omega)
  · refine Ev.step (fun k => ?_) (told_tail l)
    simp only [laws_FnKeysToldOfAll.j4]
    rw [if_neg (by rw [decide_eq_true_eq]; omega)]
theorem told_j3 (l : Stt) (n : Int) : Ev (fun k => laws_FnKeysToldOfAll.j3 k n (tx l) (barV n).1 (barV n).2 (freeV n).1 (parseV l).1 (parseV l).2 false) true := by
  by_cases c : 1 ≤ n ∧ n ≤ 10
  · obtain ⟨m, rfl⟩ := Int.eq_ofNat_of_zero_le (show 0 ≤ n by omega)
    have e1 : barV (m : Int) = ((barKs m).map tx, true) := by unfold barV; rw [if_pos c, Int.toNat_natCast]
    have e2 : freeV (m : Int) = ((freeKs m).map tx, true) := by unfold freeV; rw [if_pos c, Int.toNat_natCast]
    rw [e1, e2]
    refine Ev.step (fun k => ?_) (told_j4 l (n := m) (by omega) (by omega))
    simp only [laws_FnKeysToldOfAll.j3]
    rw [if_neg Bool.false_ne_true, if_pos trivial]
  · have e1 : barV n = ([], false) := if_neg c
    have e2 : freeV n = ([], false) := if_neg c
    rw [e1, e2]
    have h4 : Ev (fun k => laws_FnKeysToldOfAll.j4 k n (tx l) [] [] (parseV l).1 (parseV l).2 false) true := by
      refine Ev.step (fun k => ?_) (told_tail l)
      simp only [laws_FnKeysToldOfAll.j4]
      rw [if_neg Bool.false_ne_true]
    refine Ev.step (fun k => ?_) h4
    simp only [laws_FnKeysToldOfAll.j3]
    rw [if_neg Bool.false_ne_true, if_neg Bool.false_ne_true]
theorem bar_ok2 (n : Int) : (freeV n).2 = (barV n).2 := by
  unfold barV freeV
  by_cases c : 1 ≤ n ∧ n ≤ 10
  · rw [if_pos c, if_pos c]
  · rw [if_neg c, if_neg c]
theorem bar_small (n : Int) : (barV n).1.length ≤ 10 ∧ (freeV n).1.length ≤ 10 := by
  unfold barV freeV
  by_cases c : 1 ≤ n ∧ n ≤ 10
  · rw [if_pos c, if_pos c]
    show ((barKs n.toNat).map tx).length ≤ 10 ∧ ((freeKs n.toNat).map tx).length ≤ 10
    rw [List.length_map, List.length_map, barKs_len, freeKs_len]
    omega
  · rw [if_neg c, if_neg c]
    exact ⟨Nat.zero_le _, Nat.zero_le _⟩
theorem parse_small (l : Stt) : (parseV l).1.length ≤ 10 := by
  unfold parseV
  by_cases c : keysOk (ptA 47 [] l) = true
  · rw [if_pos c]
    show ((ptA 47 [] l).map tx).length ≤ 10
    rw [List.length_map]
    exact (keys_parts c).1.2
  · rw [if_neg c]
    exact Nat.zero_le _
theorem told_j2 (l : Stt) (hl : l.length ≤ 1048576) (n : Int) : Ev (fun k => laws_FnKeysToldOfAll.j2 k n (tx l)) true := by
  have hs := bar_small n
  have hp := parse_small l
  have hok := bar_ok2 n
  obtain ⟨K1, g1⟩ := ev_at (bars_both n).2
  obtain ⟨K2, g2⟩ := ev_at (bars_both n).1
  obtain ⟨K3, g3⟩ := ev_at (free_spec n)
  obtain ⟨K4, g4⟩ := ev_at (parse_both l hl).2
  obtain ⟨K5, g5⟩ := ev_at (parse_both l hl).1
  obtain ⟨K6, g6⟩ := ev_at (yTexts (barV n).1 (by omega))
  obtain ⟨K7, g7⟩ := ev_at (yTexts (freeV n).1 (by omega))
  obtain ⟨K8, g8⟩ := ev_at (yTexts (parseV l).1 (by omega))
  obtain ⟨K9, g9⟩ := ev_at (told_j3 l n)
  have hfi := free_impl n
  generalize barV n = A at *
  generalize freeV n = B at *
  generalize parseV l = C at *
  refine ⟨K1 + K2 + K3 + K4 + K5 + K6 + K7 + K8 + K9 + 1, fun m hm => ?_⟩
  obtain ⟨k, rfl⟩ : ∃ k, m = k + 1 := ⟨m - 1, by omega⟩
  simp only [laws_FnKeysToldOfAll.j2]
  rw [g1 k (by omega), obind, g2 k (by omega), obind, hfi, obind, g3 k (by omega), obind, g4 k (by omega), obind, g5 k (by omega), obind, if_neg (nn _), g6 k (by omega), obind, if_pos rfl, if_neg (nn _), g7 k (by omega), obind, if_pos rfl, if_neg (by rw [hok]; exact nn _), if_neg (nn _), g8 k (by omega), obind]
  exact g9 k (by omega)
theorem told_j1 {ks : List Stt} (hn : ks.length ≤ 1048576) (l : Stt) (hl : l.length ≤ 1048576) (n : Int) : Ev (fun k => laws_FnKeysToldOfAll.j1 k (ks.map tx) n (tx l) (longV ks).1 (longV ks).2 (resK ks).1 (linksV ks).1 (lineV ks).1 (turnV ks).1 (textV ks).1 false) true := by
  have hj2 := told_j2 l hl n
  cases hk : keysOk ks with
  | false =>
    have e : longV ks = (0, false) := if_neg (by rw [hk]; exact Bool.false_ne_true)
    rw [e]
    refine Ev.step (fun k => ?_) hj2
    simp only [laws_FnKeysToldOfAll.j1]
    rw [if_neg Bool.false_ne_true, if_neg Bool.false_ne_true]
  | true =>
    obtain ⟨⟨k1, k2⟩, _⟩ := keys_parts hk
    have hp := pow10 k2
    have hkr := keysOk_rv hk
    have hlr := rvK_len ks
    have v1 : longV ks = (((longK ks : Nat) : Int), true) := if_pos hk
    have v2 : resK ks = (((partsK ks : Nat) : Int), true) := if_pos hk
    have v3 : linksV ks = (wrap64 (Int.tdiv (sumS (gK ks) (tsK ks.length) : Int) 2), true) := if_pos hk
    have v4 : lineV ks = lineA (big (degN ks)) (ends (degN ks)) (partsK ks) := if_pos hk
    have v5 : turnV ks = ((rvK ks).map tx, true) := by unfold turnV; rw [if_pos hk, tnK_rv]
    have v6 : textV ks = (tx (txK ks ks.length), true) := if_pos hk
    have t1 := (turn_both (rvK ks) (by omega)).2
    have w1 : turnV (rvK ks) = (ks.map tx, true) := by unfold turnV; rw [if_pos hkr, tnK_rv, rvK_rvK]
    rw [w1] at t1
    have t2 := (long_both (rvK ks) (by omega)).2
    have w2 : longV (rvK ks) = (((longK ks : Nat) : Int), true) := by unfold longV; rw [if_pos hkr, long_rv hk]
    rw [w2] at t2
    have t3 := implParts (rvK ks) (by omega)
    have w3 : resK (rvK ks) = (((partsK ks : Nat) : Int), true) := by unfold resK; rw [if_pos hkr, parts_rv hk]
    rw [w3] at t3
    have htl := txK_len hk ks.length (Nat.le_refl _)
    have t4 := (parse_both (txK ks ks.length) (by omega)).2
    have w4 : parseV (txK ks ks.length) = (ks.map tx, true) := by unfold parseV; rw [parse_text hk, if_pos hk]
    rw [w4] at t4
    have t5 := yTexts (ks.map tx) (by rw [List.length_map]; omega)
    -- the numbers
    have p1 := parts_ge hk [List.replicate ks.length 48] (by simp) (fun x hx => by
      rw [List.mem_singleton] at hx
      rw [hx]
      exact ⟨List.length_replicate .., by rw [List.all_replicate]; simp [okc]⟩) (fun x hx y hy _ => by
      rw [List.mem_singleton] at hx hy
      rw [hx, hy])
    rw [List.length_singleton] at p1
    have p2 := parts_le ks
    have p3 := links_ge hk
    have p4 := mv_sum_le (ks := ks)
    have p5 := long_lt hk
    have hV : shl .i64 1 ((ks.map tx).length : Int) = ((2 ^ ks.length : Nat) : Int) := by rw [List.length_map]; exact shl_one ks.length (by omega)
    have hline : (lineV ks).1 = true → longK ks + 1 = 2 ^ ks.length ∧ partsK ks = 1 ∧ sumS (gK ks) (tsK ks.length) + 2 = 2 * 2 ^ ks.length := fun h => by
      rw [v4] at h
      unfold lineA at h
      cases hb : big (degN ks) with
      | true =>
        rw [hb, if_pos rfl] at h
        exact absurd h Bool.false_ne_true
      | false =>
        rw [hb, if_neg Bool.false_ne_true] at h
        have h2 : ends (degN ks) = 2 ∧ partsK ks = 1 := by simpa using h
        exact ⟨line_long hk hb h2.1 h2.2, h2.2, line_sum hk hb h2.1 h2.2⟩
    have hmul : 2 ^ ks.length * ks.length ≤ 10240 := Nat.le_trans (Nat.mul_le_mul hp k2) (by decide)
    have hmulI : ((2 ^ ks.length : Nat) : Int) * (ks.length : Int) = ((2 ^ ks.length * ks.length : Nat) : Int) := (Int.natCast_mul _ _).symm
    have hlm : ((ks.map tx).length : Int) = (ks.length : Int) := by rw [List.length_map]
    have td : ∀ x : Nat, Int.tdiv (x : Int) 2 = ((x / 2 : Nat) : Int) := tdiv_two
    generalize lineV ks = Z at *
    rw [v1, v2, v3, v5, v6]
    clear v1 v2 v3 v4 v5 v6 w1 w2 w3 w4
    generalize 2 ^ ks.length * ks.length = M at *
    generalize 2 ^ ks.length = V at *
    generalize sumS (gK ks) (tsK ks.length) = s at *
    generalize longK ks = g at *
    generalize partsK ks = p at *
    have c1 : ¬ ((p : Int) < 1) := by omega
    have c2 : ¬ ((p : Int) > (V : Int)) := by omega
    have hs2 : wrap64 (Int.tdiv (s : Int) 2) = ((s / 2 : Nat) : Int) := by rw [td, w64 (by omega) (by omega)]
    have c3 : ¬ (((s / 2 : Nat) : Int) < wrap64 ((V : Int) - (p : Int))) := by rw [w64 (by omega) (by omega)]; omega
    have c4 : ¬ (((s / 2 : Nat) : Int) > wrap64 (Int.tdiv (wrap64 ((V : Int) * ((ks.map tx).length : Int))) 2)) := by rw [hlm, hmulI, w64 (n := (M : Int)) (by omega) (by omega), td, w64 (by omega) (by omega)]; omega
    have c5 : ¬ ((g : Int) ≥ (V : Int)) := by omega
    have c6 : wrap64 ((V : Int) - 1) = (V : Int) - 1 := w64 (by omega) (by omega)
    obtain ⟨K1, g1⟩ := ev_at t1
    obtain ⟨K2, g2⟩ := ev_at t2
    obtain ⟨K3, g3⟩ := ev_at t3
    obtain ⟨K4, g4⟩ := ev_at t4
    obtain ⟨K5, g5⟩ := ev_at t5
    obtain ⟨K6, g6⟩ := ev_at hj2
    refine ⟨K1 + K2 + K3 + K4 + K5 + K6 + 1, fun m hm => ?_⟩
    obtain ⟨k, rfl⟩ : ∃ k, m = k + 1 := ⟨m - 1, by omega⟩
    simp only [laws_FnKeysToldOfAll.j1]
    rw [if_neg Bool.false_ne_true, if_pos trivial, g1 k (by omega), obind, g2 k (by omega), obind, g3 k (by omega), obind, g4 k (by omega), obind, if_pos rfl, g5 k (by omega), obind, if_pos rfl, if_pos rfl, if_pos rfl, if_pos rfl, if_pos rfl, if_pos rfl, obind, if_pos rfl, hV, if_neg c1, if_neg c2, hs2, if_neg c3, if_neg c4]
    by_cases c : Z.1 = true
    · obtain ⟨q1, q2, q3⟩ := hline c
      rw [if_pos c, c6, if_pos (by omega), if_pos (by omega), if_pos (by omega), if_neg c5]
      exact g6 k (by omega)
    · rw [if_neg c, if_neg c5]
      exact g6 k (by omega)
theorem turn_small {ks : List Stt} : (turnV ks).1.length ≤ 10 := by
  unfold turnV
  by_cases c : keysOk ks = true
  · rw [if_pos c]
    show (tnK ks 0).length ≤ 10
    exact Nat.le_trans (tnK_len ks 0) (keys_parts c).1.2
  · rw [if_neg c]
    exact Nat.zero_le _
theorem told_j0 {ks : List Stt} (hn : ks.length ≤ 1048576) (l : Stt) (hl : l.length ≤ 1048576) (n : Int) : Ev (fun k => laws_FnKeysToldOfAll.j0 k (ks.map tx) n (tx l) false) true := by
  obtain ⟨K1, g1⟩ := ev_at (long_both ks hn).2
  obtain ⟨K2, g2⟩ := ev_at (long_both ks hn).1
  obtain ⟨K3, g3⟩ := ev_at (implParts ks hn)
  obtain ⟨K4, g4⟩ := ev_at (specParts ks hn)
  obtain ⟨K5, g5⟩ := ev_at (links_both ks hn).2
  obtain ⟨K6, g6⟩ := ev_at (links_both ks hn).1
  obtain ⟨K7, g7⟩ := ev_at (line_both ks hn).2
  obtain ⟨K8, g8⟩ := ev_at (line_both ks hn).1
  obtain ⟨K9, g9⟩ := ev_at (turn_both ks hn).2
  obtain ⟨K10, g10⟩ := ev_at (turn_both ks hn).1
  obtain ⟨K11, g11⟩ := ev_at (text_both ks hn).2
  obtain ⟨K12, g12⟩ := ev_at (text_both ks hn).1
  obtain ⟨K13, g13⟩ := ev_at (yTexts (turnV ks).1 (by have := turn_small (ks := ks); omega))
  obtain ⟨K14, g14⟩ := ev_at (areKeys ks (by omega))
  obtain ⟨K15, g15⟩ := ev_at (told_j1 hn l hl n)
  have f1 : (longV ks).2 = keysOk ks := by unfold longV; cases keysOk ks <;> rfl
  have f2 : (resK ks).2 = keysOk ks := by unfold resK; cases keysOk ks <;> rfl
  have f3 : (linksV ks).2 = keysOk ks := by unfold linksV; cases keysOk ks <;> rfl
  have f4 : (lineV ks).2 = keysOk ks := by
    unfold lineV lineA
    cases keysOk ks with
    | false => rfl
    | true =>
      rw [if_pos rfl]
      cases big (degN ks) <;> rfl
  have f5 : (turnV ks).2 = keysOk ks := by unfold turnV; cases keysOk ks <;> rfl
  have f6 : (textV ks).2 = keysOk ks := by unfold textV; cases keysOk ks <;> rfl
  generalize longV ks = A1 at *
  generalize resK ks = A2 at *
  generalize linksV ks = A3 at *
  generalize lineV ks = A4 at *
  generalize turnV ks = A5 at *
  generalize textV ks = A6 at *
  generalize keysOk ks = b at *
  refine ⟨K1 + K2 + K3 + K4 + K5 + K6 + K7 + K8 + K9 + K10 + K11 + K12 + K13 + K14 + K15 + 1, fun m hm => ?_⟩
  obtain ⟨k, rfl⟩ : ∃ k, m = k + 1 := ⟨m - 1, by omega⟩
  have g15 := g15 k (by omega)
  simp only [laws_FnKeysToldOfAll.j0]
  rw [if_neg Bool.false_ne_true, g1 k (by omega), obind, g2 k (by omega), obind, g3 k (by omega), obind, g4 k (by omega), obind, g5 k (by omega), obind, g6 k (by omega), obind, g7 k (by omega), obind, g8 k (by omega), obind, g9 k (by omega), obind, g10 k (by omega), obind, g11 k (by omega), obind, g12 k (by omega), obind,
    if_neg (nn _), if_pos rfl, if_neg (nn _), if_pos rfl, if_neg (nn _), if_pos rfl, if_neg (nn _), if_neg (nn _), if_neg (nn _), g13 k (by omega), obind, if_pos rfl, if_neg (nn _), if_pos rfl, g14 k (by omega), obind,
    if_neg (by rw [f1]; exact nn _), if_neg (by rw [f1, f2]; exact nn _), if_neg (by rw [f1, f3]; exact nn _), if_neg (by rw [f1, f4]; exact nn _), if_neg (by rw [f1, f5]; exact nn _), f6, f1, bne_self_eq_false]
  rw [f1] at g15
  exact g15
end Go.Proofs.YtbmbehkdidlolaaGreatDoor.Lem
namespace Go.Proofs.YtbmbehkdidlolaaGreatDoor.Pure
open Go.RowKit Go.Proofs.YtbmbehkdidlolaaGreatDoor.Lem Go.Proofs.YtbmbehkdidlolaaGreatDoor.PT Go.Proofs.YtbmbehkdidlolaaGreatDoorW.PrintWords Go.Proofs.YtbmbehkdidlolaaGreatDoorW.PrintLast Go.Proofs.YtbmbehkdidlolaaGreatDoorW.PrintMore Go.Proofs.YtbmbehkdidlolaaGreatDoor.Ring Go.Proofs.YtbmbehkdidlolaaGreatDoor.Bfs

theorem FnKeysToldOfAll : laws_FnKeysToldOfAll.Pure := by
  intro L n s _ _ _ _
  have key : Ev (fun k => laws_FnKeysToldOfAll.f k L n s) true := by
    have out : ∀ (L : List ByteArray), Ev (fun k => laws_FnKeysToldOfAll.j0 k L n s true) true := fun L => by
      refine Ev.step (f := fun _ => some true) (fun k => ?_) (Ev.now _)
      simp only [laws_FnKeysToldOfAll.j0]
      rw [if_pos trivial]
    unfold laws_FnKeysToldOfAll.f
    by_cases c1 : (L.length : Int) > 10000
    · exact Ev.congr (fun k => if_pos c1) (out L)
    · refine Ev.congr (fun k => if_neg c1) ?_
      by_cases c2 : (s.size : Int) > 1048576
      · rw [decide_eq_true c2]
        exact out L
      · rw [decide_eq_false c2]
        obtain ⟨ks, rfl⟩ := as_tx L
        obtain ⟨l, rfl⟩ : ∃ l, s = tx l := ⟨s.data.toList, (tx_self s).symm⟩
        rw [List.length_map] at c1
        rw [tx_size] at c2
        exact told_j0 (by omega) l (by omega) n
  obtain ⟨K, h⟩ := key
  exact ⟨K, h K (Nat.le_refl _)⟩
end Go.Proofs.YtbmbehkdidlolaaGreatDoor.Pure
