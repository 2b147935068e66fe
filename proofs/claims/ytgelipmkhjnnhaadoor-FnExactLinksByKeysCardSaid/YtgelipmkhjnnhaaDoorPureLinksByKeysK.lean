/-
  Links by keys: the law holds.
-/
import Derived.Test.YtgelipmkhjnnhaaDoorLemLinksK
namespace Go.Proofs.YtgelipmkhjnnhaaDoor.Lem
open Go.RowKit Go.Proofs.YtgelipmkhjnnhaaDoor.PK Go.Proofs.YtgelipmkhjnnhaaDoorW.PrintWords Go.Proofs.YtgelipmkhjnnhaaDoorW.PrintLast Go.Proofs.YtgelipmkhjnnhaaDoorW.PrintMore Go.Proofs.YtgelipmkhjnnhaaDoor.Ring
set_option linter.unusedVariables false
set_option linter.unusedSimpArgs false

theorem okc_or {c : UInt8} (h : okc c = true) : c = 48 ∨ c = 49 := by
  simpa [okc] using h
theorem bits {n : Nat} {s : Stt} (hs : okN n s) (hn : n ≤ 10) : ∃ b : Nat, b < 2 ^ n ∧ Ev (fun k => impl_bits.f k (tx s)) (b : Int) := by
  obtain ⟨h1, h2⟩ := hs
  have h10 : (2 : Nat) ^ n ≤ 2 ^ 10 := Nat.pow_le_pow_right (by decide) hn
  have go : ∀ j v : Nat, j ≤ n → v < 2 ^ (n - j) → ∃ b : Nat, b < 2 ^ n ∧ Ev (fun k => impl_bits.l0 k (tx s) (v : Int) ((j : Int) - 1)) (b : Int) := by
    intro j
    induction j with
    | zero =>
      intro v _ hv
      refine ⟨v, by simpa using hv, Ev.step (f := fun _ => some (v : Int)) (fun k => ?_) (Ev.now _)⟩
      simp only [impl_bits.l0]
      rw [if_neg (by omega)]
    | succ j ih =>
      intro v hj hv
      have hjl : j < s.length := by omega
      have hpw : 2 ^ (n - j) = 2 ^ (n - (j + 1)) * 2 := by rw [← Nat.pow_succ]; congr 1; omega
      have hple : (2 : Nat) ^ (n - (j + 1)) ≤ 2 ^ 10 := Nat.pow_le_pow_right (by decide) (by omega)
      have h1024 : (2 : Nat) ^ 10 = 1024 := by decide
      have hc := okc_or (List.all_eq_true.1 h2 _ (List.getElem_mem hjl))
      obtain ⟨d, hd, he⟩ : ∃ d : Nat, d ≤ 1 ∧ ((s[j].toNat : Int) - 48) % 256 = (d : Int) := by
        rcases hc with h | h
        · exact ⟨0, by decide, by rw [h]; decide⟩
        · exact ⟨1, by decide, by rw [h]; decide⟩
      obtain ⟨b, hb, e⟩ := ih (2 * v + d) (by omega) (by omega)
      refine ⟨b, hb, Ev.step (fun k => ?_) e⟩
      have e0 : ((j + 1 : Nat) : Int) - 1 = (j : Int) := by omega
      have e1 : wrap64 (2 * (v : Int)) = ((2 * v : Nat) : Int) := by rw [w64 (by omega) (by omega)]; omega
      have e2 : wrap64 (((2 * v : Nat) : Int) + (d : Int)) = ((2 * v + d : Nat) : Int) := by rw [w64 (by omega) (by omega)]; omega
      have e3 : wrap64 ((j : Int) - 1) = (j : Int) - 1 := w64 (by omega) (by omega)
      simp only [impl_bits.l0]
      rw [e0, if_pos (show (j : Int) ≥ 0 from Int.natCast_nonneg j), if_pos (Int.natCast_nonneg j), tx_size, if_pos (Int.ofNat_lt.2 hjl), bt_tx hjl, he, e1, e2, e3]
  obtain ⟨b, hb, e⟩ := go n 0 (Nat.le_refl _) (by rw [Nat.sub_self]; decide)
  refine ⟨b, hb, ?_⟩
  unfold impl_bits.f
  have e3 : wrap64 ((n : Int) - 1) = (n : Int) - 1 := w64 (by omega) (by omega)
  rw [tx_size, h1, e3]
  exact e
def flK (l : List Stt) : List Stt := l.flatMap (fun s => [s ++ [48], s ++ [49]])
theorem flK_len : ∀ l : List Stt, (flK l).length = 2 * l.length
  | [] => rfl
  | a :: l => by
    have := flK_len l
    unfold flK at this ⊢
    rw [List.flatMap_cons, List.length_append, this, List.length_cons]
    simp
    omega
theorem textStates_l1 (cur : List Stt) (hc : cur.length ≤ 1024) (hs : ∀ s ∈ cur, s.length ≤ 10) (x8 x9 : Int) (R : List ByteArray)
    (H : Ev (fun k => impl_textStates.l0 k ((flK cur).map tx) x8 (wrap64 (x9 + 1))) R) : ∀ d i, i + d = cur.length →
    Ev (fun k => impl_textStates.l1 k ((flK (cur.take i)).map tx) x8 x9 (cur.map tx) ((cur.map tx).length : Int) (i : Int)) R := by
  intro d
  induction d with
  | zero =>
    intro i hi
    obtain rfl : i = cur.length := by omega
    rw [List.take_length]
    refine Ev.step (fun k => ?_) H
    simp only [impl_textStates.l1]
    rw [List.length_map, if_neg (Int.lt_irrefl _)]
  | succ d ih =>
    intro i hi
    have hil : i < cur.length := by omega
    have hil2 : i < (cur.map tx).length := by rw [List.length_map]; exact hil
    have h10 := hs _ (List.getElem_mem hil)
    have hfl := flK_len (cur.take i)
    rw [List.length_take] at hfl
    have e1 : (flK (cur.take (i + 1))).map tx = (flK (cur.take i)).map tx ++ [tx cur[i] ++ (⟨#[48]⟩ : ByteArray), tx cur[i] ++ (⟨#[49]⟩ : ByteArray)] := by
      have a1 : tx cur[i] ++ (⟨#[48]⟩ : ByteArray) = tx (cur[i] ++ [48]) := app_tx _ [48]
      have a2 : tx cur[i] ++ (⟨#[49]⟩ : ByteArray) = tx (cur[i] ++ [49]) := app_tx _ [49]
      rw [a1, a2, List.take_succ_eq_append_getElem hil]
      unfold flK
      rw [List.flatMap_append, List.map_append]
      rfl
    have h := ih (i + 1) (by omega)
    rw [e1] at h
    refine Ev.step (fun k => ?_) h
    simp only [impl_textStates.l1]
    rw [if_pos (Int.ofNat_lt.2 hil2), if_pos (Int.natCast_nonneg _), if_pos (Int.ofNat_lt.2 hil2), rdK hil, if_pos (show (tx cur[i]).size + 1 ≤ 9223372036854775807 by rw [tx_size]; omega), obind,
      if_pos (show ((flK (cur.take i)).map tx).length + ([tx cur[i] ++ (⟨#[48]⟩ : ByteArray), tx cur[i] ++ (⟨#[49]⟩ : ByteArray)] : List ByteArray).length < 8796093022208 by rw [List.length_map]; simp only [List.length_cons, List.length_nil]; omega), succ64 (by omega)]
theorem textStates (n : Nat) (hn : n ≤ 10) : Ev (fun k => impl_textStates.f k (n : Int)) ((tsK n).map tx) := by
  have go : ∀ d m, m + d = n → Ev (fun k => impl_textStates.l0 k ((tsK m).map tx) (n : Int) (m : Int)) ((tsK n).map tx) := by
    intro d
    induction d with
    | zero =>
      intro m hm
      obtain rfl : m = n := by omega
      refine Ev.step (f := fun _ => some ((tsK m).map tx)) (fun k => ?_) (Ev.now _)
      simp only [impl_textStates.l0]
      rw [if_neg (Int.lt_irrefl _)]
    | succ d ih =>
      intro m hm
      have hl := tsK_length m
      have h10 : (2 : Nat) ^ m ≤ 2 ^ 10 := Nat.pow_le_pow_right (by decide) (by omega)
      have h1024 : (2 : Nat) ^ 10 = 1024 := by decide
      have h := textStates_l1 (tsK m) (by omega) (fun s h => by rw [(tsK_ok m s h).1]; omega) (n : Int) (m : Int) ((tsK n).map tx) (by
        rw [succ64 (by omega)]
        exact ih (m + 1) (by omega)) (tsK m).length 0 (Nat.zero_add _)
      refine Ev.step (fun k => ?_) h
      simp only [impl_textStates.l0]
      rw [if_pos (Int.ofNat_lt.2 (show m < n by omega))]
      rfl
  unfold impl_textStates.f
  exact go n 0 (Nat.zero_add _)
def totL (rows : List (List Int)) : Nat := (rows.map List.length).sum
theorem tot_set (x : Int) : ∀ (rows : List (List Int)) (b : Nat), b < rows.length → totL (rows.set b (rows.getD b [] ++ [x])) = totL rows + 1
  | [], b, h => absurd h (Nat.not_lt_zero b)
  | r :: rows, 0, h => by
    simp only [totL, List.set_cons_zero, List.map_cons, List.sum_cons, List.getD_cons_zero, List.length_append, List.length_singleton]
    omega
  | r :: rows, b + 1, h => by
    have ih := tot_set x rows b (by simpa using h)
    simp only [totL, List.set_cons_succ, List.map_cons, List.sum_cons, List.getD_cons_succ] at ih ⊢
    omega
theorem len_tot : ∀ (rows : List (List Int)) (b : Nat), (rows.getD b []).length ≤ totL rows
  | [], b => by simp [totL]
  | r :: rows, 0 => by simp [totL]
  | r :: rows, b + 1 => by
    have ih := len_tot rows b
    simp only [totL, List.map_cons, List.sum_cons, List.getD_cons_succ] at ih ⊢
    omega
theorem tot_rep (n : Nat) : totL (List.replicate n []) = 0 := by
  induction n with
  | zero => rfl
  | succ n ih => simp only [totL, List.replicate_succ, List.map_cons, List.sum_cons, List.length_nil] at ih ⊢; omega
def gK (ks : List Stt) (s : Stt) : Nat := (mvK ks s ks.length).length
theorem links_l1 (ks : List Stt) (n : Nat) (hn : n ≤ 10) (T : Nat) (hT : T ≤ 1000000) (L : List ByteArray) (x15 x16 : Int) (s : Stt) (hs : okN n s) (M : List Nat) (hM : M.length ≤ 1000000) (Q : List (List Int) → Prop)
    (H : ∀ rows : List (List Int), rows.length = 2 ^ n → totL rows = T → ∃ R, Ev (fun k => impl_keyedLinks.l0 k (ks.map tx) rows L x15 (wrap64 (x16 + 1))) R ∧ Q R) : ∀ d j (rows : List (List Int)), j + d = M.length → rows.length = 2 ^ n → totL rows + d = T →
    ∃ R, Ev (fun k => impl_keyedLinks.l1 k (ks.map tx) rows (tx s) L x15 x16 (ints M) ((ints M).length : Int) (j : Int)) R ∧ Q R := by
  have lM : (ints M).length = M.length := by unfold ints; rw [List.length_map]
  obtain ⟨b, hb, eb⟩ := bits hs hn
  intro d
  induction d with
  | zero =>
    intro j rows hj hl ht
    obtain rfl : j = M.length := by omega
    obtain ⟨R, h, hQ⟩ := H rows hl ht
    refine ⟨R, Ev.step (fun k => ?_) h, hQ⟩
    simp only [impl_keyedLinks.l1]
    rw [lM, if_neg (Int.lt_irrefl _)]
  | succ d ih =>
    intro j rows hj hl ht
    have hjl : j < M.length := by omega
    have hrd : rd (ints M) (j : Int) = ((M[j] : Nat) : Int) := by
      rw [rd_get (by rw [lM]; exact hjl)]
      simp [ints]
    have e2 : rd_L2 rows (b : Int) = rows.getD b [] := rfl
    have hlt := len_tot rows b
    have hbr : b < rows.length := by rw [hl]; exact hb
    have ht2 := tot_set (Go.bits .xor .i64 (b : Int) (shl .i64 1 ((M[j] : Nat) : Int))) rows b hbr
    obtain ⟨R, h, hQ⟩ := ih (j + 1) (rows.set b (rows.getD b [] ++ [Go.bits .xor .i64 (b : Int) (shl .i64 1 ((M[j] : Nat) : Int))])) (by omega) (by rw [List.length_set]; exact hl) (by omega)
    refine ⟨R, ev_num eb h (fun k hk => ?_), hQ⟩
    have hk' : impl_bits.f k (tx s) = some (b : Int) := hk
    have c1 : (j : Int) < ((ints M).length : Int) := by rw [lM]; exact Int.ofNat_lt.2 hjl
    simp only [impl_keyedLinks.l1]
    rw [if_pos c1, if_pos (Int.natCast_nonneg _), if_pos c1, hk', obind, obind, if_pos (Int.natCast_nonneg _), if_pos (Int.ofNat_lt.2 hbr), obind, hrd, if_pos (Int.natCast_nonneg _), e2, if_pos (show (rows.getD b []).length < 17592186044416 by omega), Int.toNat_natCast, succ64 (by omega)]
theorem links {ks : List Stt} (hk : keysOk ks = true) : ∃ R : List (List Int), R.length = 2 ^ ks.length ∧ totL R = sumS (gK ks) (tsK ks.length) ∧ Ev (fun k => impl_keyedLinks.f k (ks.map tx)) R := by
  obtain ⟨⟨k1, k2⟩, k3⟩ := keys_parts hk
  have h10 : (2 : Nat) ^ ks.length ≤ 2 ^ 10 := Nat.pow_le_pow_right (by decide) k2
  have h1024 : (2 : Nat) ^ 10 = 1024 := by decide
  have hlen := tsK_length ks.length
  have hT := sumS_le (gK ks) 10 (tsK ks.length) (fun s hs => Nat.le_trans (mvK_len ks s ks.length) k2)
  have lL : ((tsK ks.length).map tx).length = (tsK ks.length).length := List.length_map _
  have go : ∀ d i (rows : List (List Int)), i + d = (tsK ks.length).length → rows.length = 2 ^ ks.length → totL rows + sumS (gK ks) ((tsK ks.length).drop i) = sumS (gK ks) (tsK ks.length) →
      ∃ R : List (List Int), Ev (fun k => impl_keyedLinks.l0 k (ks.map tx) rows ((tsK ks.length).map tx) (((tsK ks.length).map tx).length : Int) (i : Int)) R ∧ (R.length = 2 ^ ks.length ∧ totL R = sumS (gK ks) (tsK ks.length)) := by
    intro d
    induction d with
    | zero =>
      intro i rows hi hl ht
      obtain rfl : i = (tsK ks.length).length := by omega
      rw [List.drop_length] at ht
      refine ⟨rows, Ev.step (f := fun _ => some rows) (fun k => ?_) (Ev.now _), hl, ht⟩
      simp only [impl_keyedLinks.l0]
      rw [lL, if_neg (Int.lt_irrefl _)]
    | succ d ih =>
      intro i rows hi hl ht
      have hil : i < (tsK ks.length).length := by omega
      have hs := tsK_ok ks.length _ (List.getElem_mem hil)
      have hm := keyedMoves hk hs
      have c1 : (i : Int) < (((tsK ks.length).map tx).length : Int) := by rw [lL]; exact Int.ofNat_lt.2 hil
      rw [List.drop_eq_getElem_cons hil] at ht
      have ht2 : totL rows + ((mvK ks (tsK ks.length)[i] ks.length).length + sumS (gK ks) ((tsK ks.length).drop (i + 1))) = sumS (gK ks) (tsK ks.length) := ht
      have hml := mvK_len ks (tsK ks.length)[i] ks.length
      obtain ⟨R, h, hQ⟩ := links_l1 ks ks.length k2 (totL rows + (mvK ks (tsK ks.length)[i] ks.length).length) (by omega) ((tsK ks.length).map tx) (((tsK ks.length).map tx).length : Int) (i : Int) (tsK ks.length)[i] hs (mvK ks (tsK ks.length)[i] ks.length) (by omega)
        (fun R => R.length = 2 ^ ks.length ∧ totL R = sumS (gK ks) (tsK ks.length)) (fun rows' hl' ht' => by
          rw [succ64 (by omega)]
          exact ih (i + 1) rows' (by omega) hl' (by omega)) (mvK ks (tsK ks.length)[i] ks.length).length 0 rows (Nat.zero_add _) hl rfl
      refine ⟨R, ev_num hm h (fun k hk' => ?_), hQ⟩
      have hk2 : impl_keyedMoves.f k (ks.map tx) (tx (tsK ks.length)[i]) = some (ints (mvK ks (tsK ks.length)[i] ks.length)) := hk'
      simp only [impl_keyedLinks.l0]
      rw [if_pos c1, if_pos (Int.natCast_nonneg _), if_pos c1, rdK hil, hk2, obind]
      rfl
  obtain ⟨R, h, h1, h2⟩ := go (tsK ks.length).length 0 (List.replicate (2 ^ ks.length) []) (Nat.zero_add _) List.length_replicate (by rw [tot_rep, Nat.zero_add]; rfl)
  refine ⟨R, h1, h2, ?_⟩
  unfold impl_keyedLinks.f
  rw [List.length_map, shl_one ks.length (by omega)]
  refine Ev.congr (fun k => by rw [if_pos (Int.natCast_nonneg _), Int.toNat_natCast, if_pos (by omega)]) (Ev.bind (textStates ks.length k2) h)
theorem tot_take (rows : List (List Int)) (i : Nat) (h : i < rows.length) : totL (rows.take (i + 1)) = totL (rows.take i) + rows[i].length := by
  unfold totL
  rw [List.take_succ_eq_append_getElem h, List.map_append, List.sum_append]
  simp
theorem tot_take_le (rows : List (List Int)) (i : Nat) : totL (rows.take i) ≤ totL rows := by
  have : totL rows = totL (rows.take i) + totL (rows.drop i) := by
    unfold totL
    rw [← List.sum_append, ← List.map_append, List.take_append_drop]
  omega
theorem sum_impl (R : List (List Int)) (hl : R.length ≤ 1000000) (ht : totL R ≤ 1000000) : Ev (fun k => impl_LinksByKeys.l0 k 0 R (R.length : Int) 0) (wrap64 (Int.tdiv (totL R : Int) 2), true) := by
  have go : ∀ d i, i + d = R.length → Ev (fun k => impl_LinksByKeys.l0 k (totL (R.take i) : Int) R (R.length : Int) (i : Int)) (wrap64 (Int.tdiv (totL R : Int) 2), true) := by
    intro d
    induction d with
    | zero =>
      intro i hi
      obtain rfl : i = R.length := by omega
      rw [List.take_length]
      refine Ev.step (f := fun _ => some (wrap64 (Int.tdiv (totL R : Int) 2), true)) (fun k => ?_) (Ev.now _)
      simp only [impl_LinksByKeys.l0]
      rw [if_neg (Int.lt_irrefl _)]
    | succ d ih =>
      intro i hi
      have hil : i < R.length := by omega
      have h1 := tot_take R i hil
      have h2 := tot_take_le R (i + 1)
      have e : rd_L2 R (i : Int) = R[i] := by
        show R.getD i [] = R[i]
        simp [List.getD, hil]
      have e2 : wrap64 ((totL (R.take i) : Int) + ((R[i]).length : Int)) = (totL (R.take (i + 1)) : Int) := by rw [w64 (by omega) (by omega)]; omega
      refine Ev.step (fun k => ?_) (ih (i + 1) (by omega))
      simp only [impl_LinksByKeys.l0]
      rw [if_pos (Int.ofNat_lt.2 hil), if_pos (Int.natCast_nonneg _), if_pos (Int.ofNat_lt.2 hil), e, e2, succ64 (by omega)]
  exact go R.length 0 (Nat.zero_add _)
def dgK (g : Nat → Nat) (i : Nat) : List Int := (List.range i).map (fun j => ((g j : Nat) : Int))
theorem dgK_len (g : Nat → Nat) (i : Nat) : (dgK g i).length = i := by unfold dgK; rw [List.length_map, List.length_range]
theorem dgK_succ (g : Nat → Nat) (i : Nat) : dgK g (i + 1) = dgK g i ++ [((g i : Nat) : Int)] := by
  unfold dgK
  rw [List.range_succ, List.map_append]
  rfl
theorem upS_le (g : Nat → Nat) (n : Nat) : ∀ i, i ≤ n → upS g i ≤ upS g n := by
  induction n with
  | zero => intro i hi; obtain rfl : i = 0 := by omega
            exact Nat.le_refl _
  | succ n ih =>
    intro i hi
    by_cases h : i = n + 1
    · rw [h]; exact Nat.le_refl _
    · have := ih i (by omega)
      simp only [upS]
      omega
theorem sum_spec (g : Nat → Nat) (N : Nat) (hN : N ≤ 1000000) (hT : upS g N ≤ 1000000) : Ev (fun k => spec_LinksByKeys.l0 k 0 (dgK g N) ((dgK g N).length : Int) 0) (wrap64 (Int.tdiv (upS g N : Int) 2), true) := by
  have go : ∀ d i, i + d = N → Ev (fun k => spec_LinksByKeys.l0 k (upS g i : Int) (dgK g N) ((dgK g N).length : Int) (i : Int)) (wrap64 (Int.tdiv (upS g N : Int) 2), true) := by
    intro d
    induction d with
    | zero =>
      intro i hi
      obtain rfl : i = N := by omega
      refine Ev.step (f := fun _ => some (wrap64 (Int.tdiv (upS g i : Int) 2), true)) (fun k => ?_) (Ev.now _)
      simp only [spec_LinksByKeys.l0]
      rw [dgK_len, if_neg (Int.lt_irrefl _)]
    | succ d ih =>
      intro i hi
      have hil : i < N := by omega
      have hil2 : i < (dgK g N).length := by rw [dgK_len]; exact hil
      have h2 := upS_le g N (i + 1) (by omega)
      have h3 : upS g (i + 1) = upS g i + g i := rfl
      have e : rd (dgK g N) (i : Int) = ((g i : Nat) : Int) := by
        rw [rd_get hil2]
        simp [dgK]
      have e2 : wrap64 ((upS g i : Int) + ((g i : Nat) : Int)) = (upS g (i + 1) : Int) := by rw [w64 (by omega) (by omega)]; omega
      refine Ev.step (fun k => ?_) (ih (i + 1) (by omega))
      simp only [spec_LinksByKeys.l0]
      rw [if_pos (Int.ofNat_lt.2 hil2), if_pos (Int.natCast_nonneg _), if_pos (Int.ofNat_lt.2 hil2), e, e2, succ64 (by omega)]
  exact go N 0 (Nat.zero_add _)
theorem degrees {ks : List Stt} (hk : keysOk ks = true) : Ev (fun k => spec_keDegrees.f k (ks.map tx)) (dgK (fun i => gK ks (stOf ks.length i)) (2 ^ ks.length)) := by
  obtain ⟨⟨k1, k2⟩, k3⟩ := keys_parts hk
  have h10 : (2 : Nat) ^ ks.length ≤ 2 ^ 10 := Nat.pow_le_pow_right (by decide) k2
  have h1024 : (2 : Nat) ^ 10 = 1024 := by decide
  have go : ∀ d i, i + d = 2 ^ ks.length → Ev (fun k => spec_keDegrees.l0 k (ks.map tx) (dgK (fun i => gK ks (stOf ks.length i)) i) (i : Int)) (dgK (fun i => gK ks (stOf ks.length i)) (2 ^ ks.length)) := by
    intro d
    induction d with
    | zero =>
      intro i hi
      obtain rfl : i = 2 ^ ks.length := by omega
      refine Ev.step (f := fun _ => some (dgK (fun i => gK ks (stOf ks.length i)) (2 ^ ks.length))) (fun k => ?_) (Ev.now _)
      simp only [spec_keDegrees.l0]
      rw [List.length_map, shl_one ks.length (by omega), if_neg (Int.lt_irrefl _)]
    | succ d ih =>
      intro i hi
      have hil : i < 2 ^ ks.length := by omega
      have hr : Ev (fun k => spec_riState.f k (ks.length : Int) (i : Int)) (tx (stOf ks.length i)) := riState ks.length i (by omega) (by omega)
      have hm := keMoves hk (s := stOf ks.length i) ⟨stOf_length _ _, stOf_ok _ _⟩
      have hlen := dgK_len (fun i => gK ks (stOf ks.length i)) i
      have h := ih (i + 1) (by omega)
      rw [dgK_succ] at h
      refine Ev.step (f := fun k => (spec_riState.f k (ks.length : Int) (i : Int)).bind fun t109 => ((spec_keMoves.f k (ks.map tx) t109).bind fun t110 => spec_keDegrees.l0 k (ks.map tx) (dgK (fun i => gK ks (stOf ks.length i)) i ++ [(t110.length : Int)]) ((i + 1 : Nat) : Int))) (fun k => ?_) (Ev.bind hr (Ev.bind hm ?_))
      · simp only [spec_keDegrees.l0]
        rw [List.length_map, shl_one ks.length (by omega), if_pos (Int.ofNat_lt.2 hil), succ64 (by omega)]
        simp only [if_pos (show (dgK (fun i => gK ks (stOf ks.length i)) i).length < 17592186044416 by omega)]
      · have e : (ints (mvK ks (stOf ks.length i) ks.length)).length = gK ks (stOf ks.length i) := by unfold ints gK; rw [List.length_map]
        rw [e]
        exact h
  have h := go (2 ^ ks.length) 0 (Nat.zero_add _)
  unfold spec_keDegrees.f
  exact h
theorem both_links (ks : List Stt) (hn : ks.length ≤ 1048576) : ∃ R, Ev (fun k => spec_LinksByKeys.f k (ks.map tx)) R ∧ Ev (fun k => impl_LinksByKeys.f k (ks.map tx)) R := by
  cases hk : keysOk ks with
  | false =>
    refine ⟨(0, false), ?_, ?_⟩
    · unfold spec_LinksByKeys.f
      refine Ev.bind (keGood ks (by omega)) ?_
      rw [hk]
      exact Ev.congr (fun k => if_neg (by simp)) (Ev.now _)
    · unfold impl_LinksByKeys.f
      refine Ev.bind (areKeys ks (by omega)) ?_
      rw [hk]
      exact Ev.congr (fun k => if_neg (by simp)) (Ev.now _)
  | true =>
    obtain ⟨⟨k1, k2⟩, k3⟩ := keys_parts hk
    have h10 : (2 : Nat) ^ ks.length ≤ 2 ^ 10 := Nat.pow_le_pow_right (by decide) k2
    have h1024 : (2 : Nat) ^ 10 = 1024 := by decide
    have hlen := tsK_length ks.length
    have hT := sumS_le (gK ks) 10 (tsK ks.length) (fun s hs => Nat.le_trans (mvK_len ks s ks.length) k2)
    have hsum := sum_num ks.length (gK ks)
    obtain ⟨R, r1, r2, r3⟩ := links hk
    refine ⟨(wrap64 (Int.tdiv (sumS (gK ks) (tsK ks.length) : Int) 2), true), ?_, ?_⟩
    · unfold spec_LinksByKeys.f
      refine Ev.bind (keGood ks (by omega)) ?_
      rw [hk]
      refine Ev.congr (fun k => if_pos rfl) (Ev.bind (degrees hk) ?_)
      have h := sum_spec (fun i => gK ks (stOf ks.length i)) (2 ^ ks.length) (by omega) (by rw [hsum]; omega)
      rw [hsum] at h
      exact h
    · unfold impl_LinksByKeys.f
      refine Ev.bind (areKeys ks (by omega)) ?_
      rw [hk]
      refine Ev.congr (fun k => if_pos rfl) (Ev.bind r3 ?_)
      have h := sum_impl R (by omega) (by omega)
      rw [r2] at h
      exact h
end Go.Proofs.YtgelipmkhjnnhaaDoor.Lem
namespace Go.Proofs.YtgelipmkhjnnhaaDoor.Pure
open Go.RowKit Go.Proofs.YtgelipmkhjnnhaaDoor.Lem Go.Proofs.YtgelipmkhjnnhaaDoor.PK Go.Proofs.YtgelipmkhjnnhaaDoorW.PrintWords Go.Proofs.YtgelipmkhjnnhaaDoorW.PrintLast Go.Proofs.YtgelipmkhjnnhaaDoorW.PrintMore

theorem FnExactLinksByKeys : laws_FnExactLinksByKeys.Pure := by
  intro L hl hz
  obtain ⟨t, ht, hc⟩ := szStringS L hl hz
  have key : Ev (fun k => laws_FnExactLinksByKeys.f k L) true := by
    unfold laws_FnExactLinksByKeys.f
    refine Ev.bind ht ?_
    by_cases c1 : t < 0
    · exact Ev.congr (fun k => if_pos c1) (Ev.now _)
    have hh := hc.resolve_left c1
    have h1 := toStringS L hh
    have h2 := eqStringS L hh
    obtain ⟨ks, rfl⟩ := as_tx L
    obtain ⟨R, e1, e2⟩ := both_links ks (by rwa [List.length_map] at hh)
    refine Ev.congr (fun k => if_neg c1) (Ev.bind h1 (Ev.bind e1 (Ev.bind h1 (Ev.bind e2 ?_))))
    refine Ev.congr (fun k => by rw [if_pos rfl, bne_self_eq_false]) ?_
    refine Ev.step (fun k => by simp only [laws_FnExactLinksByKeys.j0]; rw [if_neg Bool.false_ne_true]) (Ev.bind h1 ?_)
    exact Ev.bind h2 (Ev.congr (fun k => if_pos rfl) (Ev.now _))
  obtain ⟨K, h⟩ := key
  exact ⟨K, h K (Nat.le_refl _)⟩
end Go.Proofs.YtgelipmkhjnnhaaDoor.Pure
