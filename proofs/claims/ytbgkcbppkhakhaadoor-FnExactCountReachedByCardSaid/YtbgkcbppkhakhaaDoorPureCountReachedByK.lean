/-
  How many states are reached by keys: the law holds.
-/
import Derived.Test.YtbgkcbppkhakhaaDoorLemKeyLawK
namespace Go.Proofs.YtbgkcbppkhakhaaDoor.Lem
open Go.RowKit Go.Proofs.YtbgkcbppkhakhaaDoor.PK Go.Proofs.YtbgkcbppkhakhaaDoorW.PrintWords Go.Proofs.YtbgkcbppkhakhaaDoorW.PrintLast Go.Proofs.YtbgkcbppkhakhaaDoorW.PrintMore Go.Proofs.YtbgkcbppkhakhaaDoor.Ring Go.Proofs.YtbgkcbppkhakhaaDoor.Bfs
set_option linter.unusedVariables false
set_option linter.unusedSimpArgs false

theorem nodup_le : ∀ (l m : List Nat), l.Nodup → (∀ x ∈ l, x ∈ m) → l.length ≤ m.length
  | [], m, _, _ => Nat.zero_le _
  | a :: l, m, h, hs => by
    obtain ⟨h1, h2⟩ := List.nodup_cons.1 h
    have ha := hs a (by simp)
    have h3 := nodup_le l (m.erase a) h2 (fun x hx => by
      have hxa : x ≠ a := fun e => h1 (e ▸ hx)
      exact (List.mem_erase_of_ne hxa).2 (hs x (by simp [hx])))
    rw [List.length_erase_of_mem ha] at h3
    have hp : 0 < m.length := List.length_pos_of_mem ha
    rw [List.length_cons]
    omega
def reachedL (F : List Int) (n : Nat) : List Nat := (List.range n).filter (fun i => decide (0 ≤ F.getD i 0))
theorem reachedL_succ (F : List Int) (n : Nat) : reachedL F (n + 1) = if 0 ≤ F.getD n 0 then reachedL F n ++ [n] else reachedL F n := by
  unfold reachedL
  rw [List.range_succ, List.filter_append]
  by_cases h : 0 ≤ F.getD n 0
  · rw [if_pos h, List.filter_cons_of_pos (p := fun i => decide (0 ≤ F.getD i 0)) (decide_eq_true h), List.filter_nil]
  · rw [if_neg h, List.filter_cons_of_neg (p := fun i => decide (0 ≤ F.getD i 0)) (by simpa using h), List.filter_nil, List.append_nil]
theorem reachedL_le (F : List Int) (n : Nat) : (reachedL F n).length ≤ n := by
  unfold reachedL
  exact Nat.le_trans (List.length_filter_le _ _) (by simp)
theorem reached_l0 (F : List Int) (hF : F.length ≤ 1048576) : ∀ d i, i + d = F.length → Ev (fun k => spec_keReached.l0 k ((reachedL F i).length : Int) F (F.length : Int) (i : Int)) ((reachedL F F.length).length : Int) := by
  intro d
  induction d with
  | zero =>
    intro i hi
    obtain rfl : i = F.length := by omega
    refine Ev.step (f := fun _ => some ((reachedL F F.length).length : Int)) (fun k => ?_) (Ev.now _)
    simp only [spec_keReached.l0]
    rw [if_neg (Int.lt_irrefl _)]
  | succ d ih =>
    intro i hi
    have hil : i < F.length := by omega
    have h9 := reachedL_le F i
    refine Ev.step (fun k => ?_) (ih (i + 1) (by omega))
    simp only [spec_keReached.l0]
    rw [if_pos (Int.ofNat_lt.2 hil), if_pos (Int.natCast_nonneg _), if_pos (Int.ofNat_lt.2 hil), rdDk, succ64 (n := i) (by omega), reachedL_succ]
    by_cases h : 0 ≤ F.getD i 0
    · rw [if_pos (show F.getD i 0 ≥ 0 from h), if_pos h, List.length_append, succ64 (n := (reachedL F i).length) (by omega)]
      rfl
    · rw [if_neg (show ¬ F.getD i 0 ≥ 0 from h), if_neg h]
theorem stOf_okN {n m : Nat} : okN n (stOf n m) := ⟨stOf_length n m, stOf_ok n m⟩
theorem reached_eq {ks : List Stt} (hk : keysOk ks = true) {s : Stt} (hs : okN ks.length s) {F : List Int} (hF : FarN ks.length F (foundK ks s)) : (reachedL F F.length).length = (foundK ks s).q.length := by
  obtain ⟨hI, hG⟩ := found_good (setupK hk) hs
  have hI : Inv (stepK ks) s (foundK ks s) (foundK ks s).q.length := hI
  have hG : GoodS (okN ks.length) (foundK ks s) := hG
  have hm : ((foundK ks s).q.map num).Nodup := by
    unfold List.Nodup
    rw [List.pairwise_map]
    exact List.Pairwise.imp_of_mem (fun ha hb hne e => hne (numN_inj (hG.ok _ ha) (hG.ok _ hb) e)) hI.nodup
  have e1 : (reachedL F F.length).length ≤ ((foundK ks s).q.map num).length := by
    refine nodup_le _ _ (List.Pairwise.filter _ List.nodup_range) (fun x hx => ?_)
    unfold reachedL at hx
    rw [List.mem_filter, List.mem_range, decide_eq_true_eq, hF.1] at hx
    have hn := num_stOf ks.length x hx.1
    have h2 := hF.2 (stOf ks.length x) stOf_okN
    rw [hn] at h2
    have h3 : ((foundK ks s).far (stOf ks.length x)).isSome = true := by
      cases e : (foundK ks s).far (stOf ks.length x) with
      | none => rw [h2, e] at hx; exact absurd hx.2 (by decide)
      | some v => rfl
    rw [List.mem_map]
    exact ⟨_, (hI.iff _).1 h3, hn⟩
  have e2 : ((foundK ks s).q.map num).length ≤ (reachedL F F.length).length := by
    refine nodup_le _ _ hm (fun x hx => ?_)
    obtain ⟨t, ht, rfl⟩ := List.mem_map.1 hx
    have hot := hG.ok t ht
    unfold reachedL
    rw [List.mem_filter, List.mem_range, decide_eq_true_eq, hF.1, hF.2 t hot]
    refine ⟨numN_lt hot, ?_⟩
    obtain ⟨v, hv⟩ := Option.isSome_iff_exists.1 ((hI.iff t).2 ht)
    rw [hv]
    exact Int.natCast_nonneg v
  rw [List.length_map] at e1 e2
  omega
theorem both_count (ks : List Stt) (s : Stt) (hn : ks.length ≤ 1048576) : ∃ R, Ev (fun k => spec_CountReachedBy.f k (ks.map tx) (tx s)) R ∧ Ev (fun k => impl_CountReachedBy.f k (ks.map tx) (tx s)) R := by
  refine ⟨if askK ks s = true then (((foundK ks s).q.length : Int), true) else (0, false), ?_, ?_⟩
  · unfold spec_CountReachedBy.f
    refine Ev.bind (keAsked ks s hn) ?_
    cases ha : askK ks s with
    | false => exact Ev.congr (fun k => if_neg (by simp)) (Ev.now _)
    | true =>
      rw [if_pos rfl]
      obtain ⟨hk, hs⟩ := ask_parts ha
      obtain ⟨F, W, hF, h⟩ := keFar hk hs
      have h9 := pow10 (keys_parts hk).1.2
      have hr := reached_l0 F (by rw [hF.1]; omega) F.length 0 (Nat.zero_add _)
      rw [reached_eq hk hs hF] at hr
      have hre : Ev (fun k => spec_keReached.f k (ks.map tx) (tx s)) ((foundK ks s).q.length : Int) := by
        unfold spec_keReached.f
        exact Ev.bind h hr
      exact Ev.congr (fun k => if_pos rfl) (Ev.bind (f := fun _ t => some (t, true)) hre (Ev.now _))
  · unfold impl_CountReachedBy.f
    refine Ev.bind (keyed_one ks s hn) ?_
    cases ha : askK ks s with
    | false => exact Ev.congr (fun k => if_neg (by simp)) (Ev.now _)
    | true =>
      rw [if_pos rfl]
      obtain ⟨hk, hs⟩ := ask_parts ha
      refine Ev.congr (fun k => by rw [if_pos rfl, if_pos (ok_smallK (keys_parts hk).1.2 hs)]) (Ev.bind (f := fun _ (q : List ByteArray × (ByteArray → Option Int) × (ByteArray → Option Int)) => some ((q.1.length : Int), true)) (search_runK hk s hs) (Ev.congr (fun k => ?_) (Ev.now _)))
      rw [List.length_map]
end Go.Proofs.YtbgkcbppkhakhaaDoor.Lem
namespace Go.Proofs.YtbgkcbppkhakhaaDoor.Pure
open Go.RowKit Go.Proofs.YtbgkcbppkhakhaaDoor.Lem Go.Proofs.YtbgkcbppkhakhaaDoor.PK Go.Proofs.YtbgkcbppkhakhaaDoorW.PrintWords Go.Proofs.YtbgkcbppkhakhaaDoorW.PrintLast Go.Proofs.YtbgkcbppkhakhaaDoorW.PrintMore

theorem FnExactCountReachedBy : laws_FnExactCountReachedBy.Pure := by
  intro L s hl hz _
  obtain ⟨t, ht, hc⟩ := szStringS L hl hz
  have key : Ev (fun k => laws_FnExactCountReachedBy.f k L s) true := by
    unfold laws_FnExactCountReachedBy.f
    by_cases d0 : (s.size : Int) > 1048576
    · exact Ev.congr (fun k => if_pos d0) (Ev.now _)
    refine Ev.congr (fun k => if_neg d0) ?_
    refine Ev.bind ht ?_
    by_cases c1 : t < 0
    · exact Ev.congr (fun k => if_pos c1) (Ev.now _)
    have hh := hc.resolve_left c1
    have h1 := toStringS L hh
    have h2 := eqStringS L hh
    obtain ⟨ks, rfl⟩ := as_tx L
    obtain ⟨R, e1, e2⟩ := both_count ks s.data.toList (by rwa [List.length_map] at hh)
    rw [tx_self] at e1 e2
    refine Ev.congr (fun k => if_neg c1) (Ev.bind h1 (Ev.bind e1 (Ev.bind h1 (Ev.bind e2 ?_))))
    refine Ev.congr (fun k => by rw [if_pos rfl, bne_self_eq_false]) ?_
    refine Ev.step (fun k => by simp only [laws_FnExactCountReachedBy.j0]; rw [if_neg Bool.false_ne_true]) (Ev.bind h1 ?_)
    exact Ev.bind h2 (Ev.congr (fun k => if_pos rfl) (Ev.now _))
  obtain ⟨K, h⟩ := key
  exact ⟨K, h K (Nat.le_refl _)⟩
end Go.Proofs.YtbgkcbppkhakhaaDoor.Pure
