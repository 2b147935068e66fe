/-
  The two searches over the numbers of states: the reference's from one state and the program's do alike, step by step.
-/
import Derived.Test.YtppbohghongfmaaDoorLemMakeN
import Derived.Test.YtppbohghongfmaaDoorBfs
namespace Go.Proofs.YtppbohghongfmaaDoor.Lem
open Go.RowKit Go.Proofs.YtppbohghongfmaaDoor.PN Go.Proofs.YtppbohghongfmaaDoorW.PrintWords Go.Proofs.YtppbohghongfmaaDoorW.PrintLast Go.Proofs.YtppbohghongfmaaDoorW.PrintMore Go.Proofs.YtppbohghongfmaaDoor.Ring Go.Proofs.YtppbohghongfmaaDoor.Bfs
set_option linter.unusedVariables false
set_option linter.unusedSimpArgs false

def addW (a b : Int) : Int := wrap64 (a + b)
def fz (o : Option Nat) : Int := match o with | none => -1 | some v => (v : Int)
/-- A function on numbers as a row. -/
def rowF (N : Nat) (f : Nat → Int) : List Int := (List.range N).map f
theorem ev_num {α β : Type} {f : Nat → Option β} {t : β} {g h : Nat → Option α} {r : α} (hn : Ev f t) (hh : Ev h r) (he : ∀ k, f k = some t → g (k + 1) = h k) : Ev g r := by
  obtain ⟨K1, h1⟩ := hn
  obtain ⟨K2, h2⟩ := hh
  refine ⟨max K1 K2 + 1, fun n hn => ?_⟩
  obtain ⟨k, rfl⟩ : ∃ k, n = k + 1 := ⟨n - 1, by omega⟩
  rw [he k (h1 k (by omega))]
  exact h2 k (by omega)
theorem rowF_length (N : Nat) (f : Nat → Int) : (rowF N f).length = N := by simp [rowF]
theorem rowF_rd (N : Nat) (f : Nat → Int) (t : Nat) (h : t < N) : rd (rowF N f) (t : Int) = f t := by
  show (rowF N f).getD t 0 = f t
  simp [rowF, List.getD, h]
theorem rowF_set (N : Nat) (f : Nat → Int) (t : Nat) (v : Int) : (rowF N f).set t v = rowF N (upd f t v) := by
  unfold rowF
  apply List.ext_getElem
  · simp
  · intro i h1 h2
    simp only [List.length_set, List.length_map, List.length_range] at h1
    rw [List.getElem_set]
    simp only [List.getElem_map, List.getElem_range, upd]
    by_cases e : t = i
    · rw [if_pos e, if_pos e.symm]
    · rw [if_neg e, if_neg (fun h => e h.symm)]
def farL (N : Nat) (st : St Nat) : List Int := rowF N (fun m => fz (st.far m))
def wayL (N : Nat) (st : St Nat) : List Int := rowF N st.ways
def qL (r : Nat) (st : St Nat) : List ByteArray := st.q.map fun n => tx (stOf r n)
theorem farL_set (N : Nat) (q : List Nat) (far : Nat → Option Nat) (w w' : Nat → Int) (q' : List Nat) (t v : Nat) : (farL N ⟨q, far, w⟩).set t (v : Int) = farL N ⟨q', upd far t (some v), w'⟩ := by
  unfold farL
  rw [rowF_set]
  congr 1
  funext m
  simp only [upd]
  by_cases h : m = t
  · rw [if_pos h, if_pos h]; rfl
  · rw [if_neg h, if_neg h]
theorem wayL_set (N : Nat) (q : List Nat) (far far' : Nat → Option Nat) (w : Nat → Int) (q' : List Nat) (t : Nat) (v : Int) : (wayL N ⟨q, far, w⟩).set t v = wayL N ⟨q', far', upd w t v⟩ := by
  unfold wayL
  rw [rowF_set]
theorem st_tx (r n : Nat) (h1 : 1 ≤ r) (h2 : r ≤ 20) : isSt (tx (stOf r n)).data.toList = true := by
  rw [tx_data]
  simp [isSt, stOf_length, h1, h2, stOf_ok]
theorem pow_le12 {r : Nat} (h : r ≤ 12) : 2 ^ r ≤ 4096 := Nat.pow_le_pow_right (by decide) h
theorem qL_at (r : Nat) (st : St Nat) (i : Nat) (hi : i < st.q.length) : rdOf ByteArray.empty (qL r st) (i : Int) = tx (stOf r st.q[i]) := by
  show (qL r st).getD i ByteArray.empty = _
  simp [qL, List.getD, hi]
theorem qL_length (r : Nat) (st : St Nat) : (qL r st).length = st.q.length := by simp [qL]
theorem mvP_len (l : List UInt8) : (mvP l).length ≤ l.length + 1 := by
  unfold mvP
  rw [List.length_append]
  have h1 := mvR_len l
  unfold ints at h1
  split
  · simp only [List.length_cons, List.length_nil]; omega
  · simp only [List.length_nil]; omega

set_option maxHeartbeats 400000 in
theorem far_l2 (r N : Nat) (h2 : 2 ≤ r) (hr : r ≤ 12) (hN : N = 2 ^ r) (s i u : Nat) (R : List Int × List Int) : ∀ (dd j : Nat) (st : St Nat) (p : List Nat), j + dd = (mvP (stOf r u)).length →
    InvIn (nbr r) s st i u p → Bfs.Good N st →
    Ev (fun k => spec_twFar.l1 k (farL N (((nbr r u).drop j).foldl (relax addW u) st)) (wayL N (((nbr r u).drop j).foldl (relax addW u) st)) (qL r (((nbr r u).drop j).foldl (relax addW u) st)) ((i + 1 : Nat) : Int)) R →
    Ev (fun k => spec_twFar.l2 k (farL N st) (wayL N st) (qL r st) (i : Int) (u : Int) (mvP (stOf r u)) ((mvP (stOf r u)).length : Int) (j : Int)) R := by
  intro dd
  have h4096 := pow_le12 hr
  have hml := mvP_len (stOf r u)
  rw [stOf_length] at hml
  have hnl : (nbr r u).length = (mvP (stOf r u)).length := by simp [nbr]
  induction dd with
  | zero =>
    intro j st p hj I G h
    rw [List.drop_eq_nil_of_le (by omega)] at h
    refine Ev.step (fun k => ?_) h
    have hq := G.len I.nodup
    have hi := I.lt
    simp only [spec_twFar.l2]
    rw [if_neg (by omega), succ64 (by omega)]
    rfl
  | succ dd ih =>
    intro j st p hj I G h
    have hjl : j < (mvP (stOf r u)).length := by omega
    have hjn : j < (nbr r u).length := by rw [hnl]; exact hjl
    have hj1 : j + 1 + dd = (mvP (stOf r u)).length := by omega
    have hj62 : j < 4611686018427387904 := by omega
    clear hnl hml hj
    obtain ⟨m, hm⟩ : ∃ m, m = (mvP (stOf r u))[j] := ⟨_, rfl⟩
    obtain ⟨t, ht⟩ : ∃ t, t = (nbr r u)[j] := ⟨_, rfl⟩
    have htm : t = num (mkP (stOf r u) m) := by rw [ht, hm]; simp [nbr]
    have hmm : m ∈ mvP (stOf r u) := by rw [hm]; exact List.getElem_mem hjl
    have htn : t ∈ nbr r u := by rw [ht]; exact List.getElem_mem hjn
    have htN : t < N := by rw [hN]; exact nbr_lt htn
    have hq := G.len I.nodup
    have hi := I.lt
    have huq : u ∈ st.q := List.mem_of_getElem? I.at_
    have huf := (I.iff u).2 huq
    have hdu := G.d huf
    have huN := G.rng u huq
    have hqi : st.q[i] = u := by have := I.at_; rw [List.getElem?_eq_getElem hi] at this; exact Option.some.inj this
    have I2 := I.relaxed addW htn
    have G2 := G.relaxed addW huf htN
    rw [List.drop_eq_getElem_cons hjn, ← ht, List.foldl_cons] at h
    have hnext := ih (j + 1) (relax addW u st t) (p ++ [t]) hj1 I2 G2 h
    have hrd : rd (mvP (stOf r u)) (j : Int) = m := by
      show (mvP (stOf r u)).getD j 0 = m
      rw [hm]
      simp [List.getD, hjl]
    have hmake := twMake (stOf r u) (by rw [stOf_length]; exact h2) (by rw [stOf_length]; omega) (stOf_ok r u) m hmm
    have hmk : mkP (stOf r u) m = stOf r t := by rw [htm]; exact mkP_eq m
    rw [hmk] at hmake
    have hnum : Ev (fun k => spec_riNumber.f k (tx (stOf r t))) (t : Int) := by
      have := riNumber (tx (stOf r t)) (by rw [tx_data, stOf_length]; omega)
      rw [tx_data, num_stOf r t (by omega)] at this
      exact this
    have hfar : rd (farL N st) (t : Int) = fz (st.far t) := rowF_rd N _ t htN
    have hfu : rd (farL N st) (u : Int) = (d st u : Int) := by
      have h1 : rd (farL N st) (u : Int) = fz (st.far u) := rowF_rd N _ u huN
      rw [h1]
      obtain ⟨v, hv⟩ := Option.isSome_iff_exists.1 huf
      rw [hv]
      simp [d, hv, fz]
    have hsd : wrap64 ((d st u : Int) + 1) = ((d st u + 1 : Nat) : Int) := succ64 (by omega)
    have hlf : (farL N st).length = N := rowF_length _ _
    have hlw : (wayL N st).length = N := rowF_length _ _
    have hwt : rd (wayL N st) (t : Int) = st.ways t := rowF_rd N _ t htN
    have hwu : rd (wayL N st) (u : Int) = st.ways u := rowF_rd N _ u huN
    have hsj : wrap64 ((j : Int) + 1) = ((j + 1 : Nat) : Int) := succ64 hj62
    have hjL : (j : Int) < ((mvP (stOf r u)).length : Int) := Int.ofNat_lt.2 hjl
    have hj0 : 0 ≤ (j : Int) := Int.natCast_nonneg j
    have hi0 : 0 ≤ (i : Int) := Int.natCast_nonneg i
    have ht0 : 0 ≤ (t : Int) := Int.natCast_nonneg t
    have hu0 : 0 ≤ (u : Int) := Int.natCast_nonneg u
    have htL : (t : Int) < (N : Int) := Int.ofNat_lt.2 htN
    have huL : (u : Int) < (N : Int) := Int.ofNat_lt.2 huN
    have hq8 : (qL r st).length < 8796093022208 := by rw [qL_length]; omega
    have et : ((t : Nat) : Int).toNat = t := rfl
    have hqt : (i : Int) < ((qL r st).length : Int) := by rw [qL_length]; exact Int.ofNat_lt.2 hi
    cases hft : st.far t with
    | none =>
      have hut : u ≠ t := fun e => by rw [e, hft] at huf; cases huf
      rw [relax_new hft hut] at hnext
      refine ev_num hnum hnext (fun k hk => ?_)
      · simp only [spec_twFar.l2]
        rw [if_pos hjL, if_pos hj0, if_pos hjL, if_pos hi0, if_pos hqt, hrd, qL_at r st i hi, hqi, hmake, obind, hk, obind]
        rw [if_pos ht0, hlf, if_pos htL, hfar, hft, if_pos (by simp [fz]), if_pos hu0, if_pos huL, obind, hfu, hsd, et, if_pos hq8, obind]
        rw [farL_set N st.q st.far st.ways (upd st.ways t (addW (st.ways t) (st.ways u))) (st.q ++ [t]) t (d st u + 1)]
        have hy1 : rd (farL N ⟨st.q ++ [t], upd st.far t (some (d st u + 1)), upd st.ways t (addW (st.ways t) (st.ways u))⟩) (t : Int) = ((d st u + 1 : Nat) : Int) := by
          unfold farL
          rw [rowF_rd N _ t htN]
          simp [upd, fz]
        have hy2 : rd (farL N ⟨st.q ++ [t], upd st.far t (some (d st u + 1)), upd st.ways t (addW (st.ways t) (st.ways u))⟩) (u : Int) = (d st u : Int) := by
          unfold farL
          rw [rowF_rd N _ u huN]
          simp only [upd]
          rw [if_neg hut]
          exact (rowF_rd N _ u huN).symm.trans hfu
        rw [hy1, hy2, hsd, if_pos rfl, hlw, if_pos htL, if_pos huL, hwt, hwu]
        rw [wayL_set N st.q st.far (upd st.far t (some (d st u + 1))) st.ways (st.q ++ [t]) t, hsj]
        have hqq : qL r st ++ [tx (stOf r t)] = qL r ⟨st.q ++ [t], upd st.far t (some (d st u + 1)), upd st.ways t (addW (st.ways t) (st.ways u))⟩ := by simp [qL]
        rw [hqq]
        rfl
    | some v =>
      have hv0 : ¬ (fz (some v) < 0) := by simp [fz]
      by_cases hvd : v = d st u + 1
      · rw [relax_same (by rw [hft, hvd])] at hnext
        refine ev_num hnum hnext (fun k hk => ?_)
        · simp only [spec_twFar.l2]
          rw [if_pos hjL, if_pos hj0, if_pos hjL, if_pos hi0, if_pos hqt, hrd, qL_at r st i hi, hqi, hmake, obind, hk, obind]
          rw [if_pos ht0, hlf, if_pos htL, hfar, hft, if_neg hv0, if_pos hu0, if_pos huL, hfu, hsd, if_pos (by rw [hvd]; rfl), hlw, if_pos htL, if_pos huL, hwt, hwu, et, hsj]
          rw [wayL_set N st.q st.far st.far st.ways st.q t]
          rfl
      · rw [relax_not (by rw [hft]; simp) (by rw [hft]; simpa using hvd)] at hnext
        have hvn : ¬ (fz (some v) = ((d st u + 1 : Nat) : Int)) := fun h => hvd (Int.ofNat.inj h)
        refine ev_num hnum hnext (fun k hk => ?_)
        · simp only [spec_twFar.l2]
          rw [if_pos hjL, if_pos hj0, if_pos hjL, if_pos hi0, if_pos hqt, hrd, qL_at r st i hi, hqi, hmake, obind, hk, obind]
          rw [if_pos ht0, hlf, if_pos htL, hfar, hft, if_neg hv0, if_pos hu0, if_pos huL, hfu, hsd, if_neg hvn, hsj]

set_option maxHeartbeats 400000 in
theorem search_l2 (r N : Nat) (h2 : 2 ≤ r) (hr : r ≤ 12) (hN : N = 2 ^ r) (s i u : Nat) (R : List Int × List Int × List ByteArray) : ∀ (dd j : Nat) (st : St Nat) (p : List Nat), j + dd = (mvP (stOf r u)).length →
    InvIn (nbr r) s st i u p → Bfs.Good N st →
    Ev (fun k => impl_search.l1 k (farL N (((nbr r u).drop j).foldl (relax addW u) st)) (wayL N (((nbr r u).drop j).foldl (relax addW u) st)) (qL r (((nbr r u).drop j).foldl (relax addW u) st)) ((i + 1 : Nat) : Int)) R →
    Ev (fun k => impl_search.l2 k (farL N st) (wayL N st) (qL r st) (i : Int) (u : Int) (mvP (stOf r u)) ((mvP (stOf r u)).length : Int) (j : Int)) R := by
  intro dd
  have h4096 := pow_le12 hr
  have hml := mvP_len (stOf r u)
  rw [stOf_length] at hml
  have hnl : (nbr r u).length = (mvP (stOf r u)).length := by simp [nbr]
  induction dd with
  | zero =>
    intro j st p hj I G h
    rw [List.drop_eq_nil_of_le (by omega)] at h
    refine Ev.step (fun k => ?_) h
    have hq := G.len I.nodup
    have hi := I.lt
    simp only [impl_search.l2]
    rw [if_neg (by omega), succ64 (by omega)]
    rfl
  | succ dd ih =>
    intro j st p hj I G h
    have hjl : j < (mvP (stOf r u)).length := by omega
    have hjn : j < (nbr r u).length := by rw [hnl]; exact hjl
    have hj1 : j + 1 + dd = (mvP (stOf r u)).length := by omega
    have hj62 : j < 4611686018427387904 := by omega
    clear hnl hml hj
    obtain ⟨m, hm⟩ : ∃ m, m = (mvP (stOf r u))[j] := ⟨_, rfl⟩
    obtain ⟨t, ht⟩ : ∃ t, t = (nbr r u)[j] := ⟨_, rfl⟩
    have htm : t = num (mkP (stOf r u) m) := by rw [ht, hm]; simp [nbr]
    have hmm : m ∈ mvP (stOf r u) := by rw [hm]; exact List.getElem_mem hjl
    have htn : t ∈ nbr r u := by rw [ht]; exact List.getElem_mem hjn
    have htN : t < N := by rw [hN]; exact nbr_lt htn
    have hq := G.len I.nodup
    have hi := I.lt
    have huq : u ∈ st.q := List.mem_of_getElem? I.at_
    have huf := (I.iff u).2 huq
    have hdu := G.d huf
    have huN := G.rng u huq
    have hqi : st.q[i] = u := by have := I.at_; rw [List.getElem?_eq_getElem hi] at this; exact Option.some.inj this
    have I2 := I.relaxed addW htn
    have G2 := G.relaxed addW huf htN
    rw [List.drop_eq_getElem_cons hjn, ← ht, List.foldl_cons] at h
    have hnext := ih (j + 1) (relax addW u st t) (p ++ [t]) hj1 I2 G2 h
    have hrd : rd (mvP (stOf r u)) (j : Int) = m := by
      show (mvP (stOf r u)).getD j 0 = m
      rw [hm]
      simp [List.getD, hjl]
    have hmake := paired (stOf r u) (by rw [stOf_length]; exact h2) (by rw [stOf_length]; omega) (stOf_ok r u) m hmm
    have hmk : mkP (stOf r u) m = stOf r t := by rw [htm]; exact mkP_eq m
    rw [hmk] at hmake
    have hnum : Ev (fun k => impl_number.f k (tx (stOf r t))) (t : Int) := by
      have := number (tx (stOf r t)) (st_tx r t (by omega) (by omega))
      rw [tx_data, num_stOf r t (by omega)] at this
      exact this
    have hfar : rd (farL N st) (t : Int) = fz (st.far t) := rowF_rd N _ t htN
    have hfu : rd (farL N st) (u : Int) = (d st u : Int) := by
      have h1 : rd (farL N st) (u : Int) = fz (st.far u) := rowF_rd N _ u huN
      rw [h1]
      obtain ⟨v, hv⟩ := Option.isSome_iff_exists.1 huf
      rw [hv]
      simp [d, hv, fz]
    have hsd : wrap64 ((d st u : Int) + 1) = ((d st u + 1 : Nat) : Int) := succ64 (by omega)
    have hlf : (farL N st).length = N := rowF_length _ _
    have hlw : (wayL N st).length = N := rowF_length _ _
    have hwt : rd (wayL N st) (t : Int) = st.ways t := rowF_rd N _ t htN
    have hwu : rd (wayL N st) (u : Int) = st.ways u := rowF_rd N _ u huN
    have hsj : wrap64 ((j : Int) + 1) = ((j + 1 : Nat) : Int) := succ64 hj62
    have hjL : (j : Int) < ((mvP (stOf r u)).length : Int) := Int.ofNat_lt.2 hjl
    have hj0 : 0 ≤ (j : Int) := Int.natCast_nonneg j
    have hi0 : 0 ≤ (i : Int) := Int.natCast_nonneg i
    have ht0 : 0 ≤ (t : Int) := Int.natCast_nonneg t
    have hu0 : 0 ≤ (u : Int) := Int.natCast_nonneg u
    have htL : (t : Int) < (N : Int) := Int.ofNat_lt.2 htN
    have huL : (u : Int) < (N : Int) := Int.ofNat_lt.2 huN
    have hq8 : (qL r st).length < 8796093022208 := by rw [qL_length]; omega
    have et : ((t : Nat) : Int).toNat = t := rfl
    have hqt : (i : Int) < ((qL r st).length : Int) := by rw [qL_length]; exact Int.ofNat_lt.2 hi
    cases hft : st.far t with
    | none =>
      have hut : u ≠ t := fun e => by rw [e, hft] at huf; cases huf
      rw [relax_new hft hut] at hnext
      refine ev_num hnum hnext (fun k hk => ?_)
      · simp only [impl_search.l2]
        rw [if_pos hjL, if_pos hj0, if_pos hjL, if_pos hi0, if_pos hqt, hrd, qL_at r st i hi, hqi, hmake, obind, hk, obind]
        rw [if_pos ht0, hlf, if_pos htL, hfar, hft, if_pos (by simp [fz]), if_pos hu0, if_pos huL, obind, hfu, hsd, et, if_pos hq8, obind]
        rw [farL_set N st.q st.far st.ways (upd st.ways t (addW (st.ways t) (st.ways u))) (st.q ++ [t]) t (d st u + 1)]
        have hy1 : rd (farL N ⟨st.q ++ [t], upd st.far t (some (d st u + 1)), upd st.ways t (addW (st.ways t) (st.ways u))⟩) (t : Int) = ((d st u + 1 : Nat) : Int) := by
          unfold farL
          rw [rowF_rd N _ t htN]
          simp [upd, fz]
        have hy2 : rd (farL N ⟨st.q ++ [t], upd st.far t (some (d st u + 1)), upd st.ways t (addW (st.ways t) (st.ways u))⟩) (u : Int) = (d st u : Int) := by
          unfold farL
          rw [rowF_rd N _ u huN]
          simp only [upd]
          rw [if_neg hut]
          exact (rowF_rd N _ u huN).symm.trans hfu
        rw [hy1, hy2, hsd, if_pos rfl, hlw, if_pos htL, if_pos huL, hwt, hwu]
        rw [wayL_set N st.q st.far (upd st.far t (some (d st u + 1))) st.ways (st.q ++ [t]) t, hsj]
        have hqq : qL r st ++ [tx (stOf r t)] = qL r ⟨st.q ++ [t], upd st.far t (some (d st u + 1)), upd st.ways t (addW (st.ways t) (st.ways u))⟩ := by simp [qL]
        rw [hqq]
        rfl
    | some v =>
      have hv0 : ¬ (fz (some v) < 0) := by simp [fz]
      by_cases hvd : v = d st u + 1
      · rw [relax_same (by rw [hft, hvd])] at hnext
        refine ev_num hnum hnext (fun k hk => ?_)
        · simp only [impl_search.l2]
          rw [if_pos hjL, if_pos hj0, if_pos hjL, if_pos hi0, if_pos hqt, hrd, qL_at r st i hi, hqi, hmake, obind, hk, obind]
          rw [if_pos ht0, hlf, if_pos htL, hfar, hft, if_neg hv0, if_pos hu0, if_pos huL, hfu, hsd, if_pos (by rw [hvd]; rfl), hlw, if_pos htL, if_pos huL, hwt, hwu, et, hsj]
          rw [wayL_set N st.q st.far st.far st.ways st.q t]
          rfl
      · rw [relax_not (by rw [hft]; simp) (by rw [hft]; simpa using hvd)] at hnext
        have hvn : ¬ (fz (some v) = ((d st u + 1 : Nat) : Int)) := fun h => hvd (Int.ofNat.inj h)
        refine ev_num hnum hnext (fun k hk => ?_)
        · simp only [impl_search.l2]
          rw [if_pos hjL, if_pos hj0, if_pos hjL, if_pos hi0, if_pos hqt, hrd, qL_at r st i hi, hqi, hmake, obind, hk, obind]
          rw [if_pos ht0, hlf, if_pos htL, hfar, hft, if_neg hv0, if_pos hu0, if_pos huL, hfu, hsd, if_neg hvn, hsj]
end Go.Proofs.YtppbohghongfmaaDoor.Lem
