/-
  How many parts the states fall into: both programs count the classes of 'reaches', one in the order of numbers, one in the order of texts.
-/
import Derived.Test.YtnmepnpjjnonmaaDoorLemTsK
namespace Go.Proofs.YtnmepnpjjnonmaaDoor.Bfs
set_option linter.unusedSectionVars false
variable {α : Type}
theorem Path.add {step : α → List α} {a b c : α} {n m : Nat} (p : Path step a n b) (q : Path step b m c) : Path step a (n + m) c := by
  induction q with
  | nil => exact p
  | snoc _ hc ih => exact .snoc ih hc
end Go.Proofs.YtnmepnpjjnonmaaDoor.Bfs
namespace Go.Proofs.YtnmepnpjjnonmaaDoor.Lem
open Go.RowKit Go.Proofs.YtnmepnpjjnonmaaDoor.PK Go.Proofs.YtnmepnpjjnonmaaDoorW.PrintWords Go.Proofs.YtnmepnpjjnonmaaDoorW.PrintLast Go.Proofs.YtnmepnpjjnonmaaDoorW.PrintMore Go.Proofs.YtnmepnpjjnonmaaDoor.Ring Go.Proofs.YtnmepnpjjnonmaaDoor.Bfs
set_option linter.unusedVariables false
set_option linter.unusedSimpArgs false

/-! ### The number of classes, in any order -/
/-- How many of a list stand in no earlier one's class. -/
def cnt (cls : Stt → Stt → Bool) : List Stt → (Stt → Bool) → Nat
  | [], _ => 0
  | s :: l, f => if f s = true then cnt cls l f else cnt cls l (fun t => f t || cls s t) + 1
theorem cnt_le (cls : Stt → Stt → Bool) : ∀ (l : List Stt) (f : Stt → Bool), cnt cls l f ≤ l.length
  | [], _ => Nat.le_refl _
  | s :: l, f => by
    unfold cnt
    split
    · exact Nat.le_succ_of_le (cnt_le cls l f)
    · exact Nat.succ_le_succ (cnt_le cls l _)
theorem cnt_swap {cls : Stt → Stt → Bool} {x y : Stt} (l : List Stt) (f : Stt → Bool) (hs : cls x y = cls y x) (ht : cls x y = true → ∀ t, cls x t = cls y t) : cnt cls (y :: x :: l) f = cnt cls (x :: y :: l) f := by
  cases hx : f x with
  | true =>
    cases hy : f y with
    | true => simp [cnt, hx, hy]
    | false => simp [cnt, hx, hy]
  | false =>
    cases hy : f y with
    | true => simp [cnt, hx, hy]
    | false =>
      cases hc : cls x y with
      | true =>
        have hc2 : cls y x = true := hs ▸ hc
        have e : (fun t => f t || cls x t) = (fun t => f t || cls y t) := by funext t; rw [ht hc t]
        simp [cnt, hx, hy, hc, hc2, e]
      | false =>
        have hc2 : cls y x = false := hs ▸ hc
        have e : (fun t => (f t || cls y t) || cls x t) = (fun t => (f t || cls x t) || cls y t) := by funext t; rw [Bool.or_assoc, Bool.or_comm (cls y t), ← Bool.or_assoc]
        simp [cnt, hx, hy, hc, hc2, e]
theorem cnt_perm {cls : Stt → Stt → Bool} {ok : Stt → Prop} (hs : ∀ x y, ok x → ok y → cls x y = cls y x) (ht : ∀ x y, ok x → ok y → cls x y = true → ∀ t, cls x t = cls y t) {l m : List Stt} (h : l.Perm m) :
    (∀ s ∈ l, ok s) → ∀ f, cnt cls l f = cnt cls m f := by
  induction h with
  | nil => intro _ f; rfl
  | cons x _ ih =>
    intro hl f
    have hl2 := fun s hs => hl s (List.mem_cons_of_mem _ hs)
    unfold cnt
    rw [ih hl2 f, ih hl2 (fun t => f t || cls x t)]
  | swap x y l =>
    intro hl f
    have h1 := hl x (by simp)
    have h2 := hl y (by simp)
    exact cnt_swap l f (hs x y h1 h2) (ht x y h1 h2)
  | trans h1 _ ih1 ih2 =>
    intro hl f
    rw [ih1 hl f, ih2 (fun s hs => hl s (h1.mem_iff.2 hs)) f]

/-! ### What is reached -/
def clsK (ks : List Stt) (s t : Stt) : Bool := ((foundK ks s).far t).isSome
theorem clsK_sym {ks : List Stt} (hk : keysOk ks = true) (x y : Stt) (hx : okN ks.length x) (hy : okN ks.length y) : clsK ks x y = clsK ks y x := by
  unfold clsK
  rw [found_sym hk hx hy]
theorem clsK_final {ks : List Stt} (hk : keysOk ks = true) {x : Stt} (hx : okN ks.length x) : Final (stepK ks) x (foundK ks x) := (found_good (setupK hk) hx).1.final
theorem clsK_imp {ks : List Stt} (hk : keysOk ks = true) {x y t : Stt} (hx : okN ks.length x) (hy : okN ks.length y) (h : clsK ks y x = true) (h2 : clsK ks x t = true) : clsK ks y t = true := by
  unfold clsK at h h2 ⊢
  obtain ⟨n, hn⟩ := Option.isSome_iff_exists.1 h
  obtain ⟨m, hm⟩ := Option.isSome_iff_exists.1 h2
  obtain ⟨v, hv, _⟩ := (clsK_final hk hy).least t _ (((clsK_final hk hy).path x n hn).add ((clsK_final hk hx).path t m hm))
  rw [hv]
  rfl
theorem clsK_trans {ks : List Stt} (hk : keysOk ks = true) (x y : Stt) (hx : okN ks.length x) (hy : okN ks.length y) (h : clsK ks x y = true) (t : Stt) : clsK ks x t = clsK ks y t := by
  have h2 : clsK ks y x = true := by rw [← clsK_sym hk x y hx hy]; exact h
  cases e : clsK ks x t with
  | true => exact (clsK_imp hk hx hy h2 e).symm
  | false =>
    cases e2 : clsK ks y t with
    | false => rfl
    | true =>
      have := clsK_imp hk hy hx h e2
      rw [e] at this
      cases this
/-- The number of parts. -/
def partsK (ks : List Stt) : Nat := cnt (clsK ks) (tsK ks.length) (fun _ => false)
theorem stOf_okP (n m : Nat) : okN n (stOf n m) := ⟨stOf_length n m, stOf_ok n m⟩
theorem states_perm (n : Nat) : ((List.range' 0 (2 ^ n)).map (stOf n)).Perm (tsK n) := by
  rw [List.perm_ext_iff_of_nodup ?_ (tsK_nodup n)]
  · intro s
    constructor
    · intro h
      obtain ⟨m, _, rfl⟩ := List.mem_map.1 h
      exact tsK_mem n _ (stOf_okP n m)
    · intro h
      have ho := tsK_ok n s h
      refine List.mem_map.2 ⟨num s, ?_, ?_⟩
      · rw [List.mem_range'_1]
        exact ⟨Nat.zero_le _, by have := numN_lt ho; omega⟩
      · have := stOf_num s ho.2
        rwa [ho.1] at this
  · unfold List.Nodup
    rw [List.pairwise_map]
    refine List.Pairwise.imp_of_mem (fun {a b} ha hb hab e => hab ?_) List.nodup_range'
    rw [List.mem_range'_1] at ha hb
    rw [← num_stOf n a (by omega), ← num_stOf n b (by omega), e]
theorem parts_num {ks : List Stt} (hk : keysOk ks = true) : cnt (clsK ks) ((List.range' 0 (2 ^ ks.length)).map (stOf ks.length)) (fun _ => false) = partsK ks :=
  cnt_perm (ok := okN ks.length) (clsK_sym hk) (clsK_trans hk) (states_perm ks.length) (fun s hs => tsK_ok _ s ((states_perm ks.length).mem_iff.1 hs)) _

/-! ### The reference's count -/
theorem rdB (l : List Bool) (i : Nat) : rdOf false l (i : Int) = l.getD i false := rfl
theorem getD_setB {l : List Bool} {i j : Nat} {v : Bool} (hi : i < l.length) : (l.set i v).getD j false = if i = j then v else l.getD j false := by
  rw [List.getD_eq_getElem?_getD, List.getElem?_set, List.getD_eq_getElem?_getD]
  by_cases e : i = j
  · rw [if_pos e, if_pos e, if_pos hi]; rfl
  · rw [if_neg e, if_neg e]
theorem kp_l1 (L : List ByteArray) (N : Nat) (hN : N ≤ 1048576) (F : List Int) (hF : F.length = N) (B : List Bool) (x4 x15 x16 R : Int)
    (H : ∀ G : List Bool, G.length = N → (∀ i, i < N → G.getD i false = (B.getD i false || decide (F.getD i 0 ≥ 0))) → Ev (fun k => spec_keParts.l0 k L G x4 x15 (wrap64 (x16 + 1))) R) : ∀ d j (acc : List Bool), j + d = N → acc.length = N →
    (∀ i, i < j → acc.getD i false = (B.getD i false || decide (F.getD i 0 ≥ 0))) → (∀ i, j ≤ i → acc.getD i false = B.getD i false) →
    Ev (fun k => spec_keParts.l1 k L acc x4 x15 x16 F (F.length : Int) (j : Int)) R := by
  intro d
  induction d with
  | zero =>
    intro j acc hj hl h1 h2
    refine Ev.step (fun k => ?_) (H acc hl (fun i hi => h1 i (by omega)))
    simp only [spec_keParts.l1]
    rw [hF, if_neg (show ¬ (j : Int) < (N : Int) from fun h => by have := Int.ofNat_lt.1 h; omega)]
  | succ d ih =>
    intro j acc hj hl h1 h2
    have hjl : j < acc.length := by omega
    have hjF : j < F.length := by omega
    have hb := h2 j (Nat.le_refl _)
    have key : ∀ v : Bool, v = (B.getD j false || decide (F.getD j 0 ≥ 0)) → Ev (fun k => spec_keParts.l1 k L (acc.set j v) x4 x15 x16 F (F.length : Int) ((j + 1 : Nat) : Int)) R := by
      intro v hv
      refine ih (j + 1) (acc.set j v) (by omega) (by rw [List.length_set]; exact hl) (fun i hi => ?_) (fun i hi => ?_)
      · rw [getD_setB hjl]
        by_cases e : j = i
        · rw [if_pos e, ← e, hv]
        · rw [if_neg e]
          exact h1 i (by omega)
      · rw [getD_setB hjl, if_neg (by omega)]
        exact h2 i (by omega)
    cases hc : acc.getD j false with
    | true =>
      refine Ev.step (fun k => ?_) (key true (by rw [← hb, hc]; rfl))
      simp only [spec_keParts.l1]
      rw [if_pos (Int.ofNat_lt.2 hjF), if_pos (Int.natCast_nonneg _), if_pos (Int.ofNat_lt.2 hjF), if_pos (Int.ofNat_lt.2 hjl), rdB, hc, if_pos rfl, succ64 (by omega), Int.toNat_natCast]
    | false =>
      refine Ev.step (fun k => ?_) (key (decide (F.getD j 0 ≥ 0)) (by rw [← hb, hc, Bool.false_or]))
      simp only [spec_keParts.l1]
      rw [if_pos (Int.ofNat_lt.2 hjF), if_pos (Int.natCast_nonneg _), if_pos (Int.ofNat_lt.2 hjF), if_pos (Int.ofNat_lt.2 hjl), rdB, hc, if_neg Bool.false_ne_true, succ64 (by omega), Int.toNat_natCast, rdDk]
theorem fz_some (o : Option Nat) : decide (fz o ≥ 0) = o.isSome := by
  cases o with
  | none => rfl
  | some v => exact decide_eq_true (show (v : Int) ≥ 0 from Int.natCast_nonneg v)
theorem kp_l0 {ks : List Stt} (hk : keysOk ks = true) : ∀ d i (acc : List Bool) (f : Stt → Bool) (c : Nat), i + d = 2 ^ ks.length → acc.length = 2 ^ ks.length → c ≤ i → (∀ s, okN ks.length s → acc.getD (num s) false = f s) →
    Ev (fun k => spec_keParts.l0 k (ks.map tx) acc (c : Int) ((2 ^ ks.length : Nat) : Int) (i : Int)) ((c + cnt (clsK ks) ((List.range' i d).map (stOf ks.length)) f : Nat) : Int) := by
  obtain ⟨⟨kl1, kl2⟩, k3⟩ := keys_parts hk
  have hp := pow10 kl2
  intro d
  induction d with
  | zero =>
    intro i acc f c hi hl hc hf
    refine Ev.step (f := fun _ => some (c : Int)) (fun k => ?_) (Ev.now _)
    simp only [spec_keParts.l0]
    rw [if_neg (fun h => by have := Int.ofNat_lt.1 h; omega)]
  | succ d ih =>
    intro i acc f c hi hl hc hf
    have hil : i < 2 ^ ks.length := by omega
    have ho := stOf_okP ks.length i
    have hn := num_stOf ks.length i hil
    have hv := hf _ ho
    rw [hn] at hv
    rw [List.range'_succ, List.map_cons]
    unfold cnt
    by_cases hs : f (stOf ks.length i) = true
    · rw [if_pos hs]
      rw [hs] at hv
      refine Ev.step (fun k => ?_) (ih (i + 1) acc f c (by omega) hl (by omega) hf)
      simp only [spec_keParts.l0]
      rw [if_pos (Int.ofNat_lt.2 hil), if_pos (Int.natCast_nonneg _), if_pos (show (i : Int) < (acc.length : Int) from Int.ofNat_lt.2 (by omega)), rdB, hv, if_pos rfl, succ64 (by omega)]
    · rw [if_neg hs]
      rw [Bool.eq_false_iff.2 hs] at hv
      have hr : Ev (fun k => spec_riState.f k (ks.length : Int) (i : Int)) (tx (stOf ks.length i)) := riState ks.length i (by omega) (by omega)
      obtain ⟨F, W, hF, e⟩ := keFar hk ho
      have h1 := kp_l1 (ks.map tx) (2 ^ ks.length) (by omega) F hF.1 acc ((c + 1 : Nat) : Int) ((2 ^ ks.length : Nat) : Int) (i : Int) _ (fun G hG hGv => by
        rw [succ64 (by omega)]
        refine ih (i + 1) G (fun t => f t || clsK ks (stOf ks.length i) t) (c + 1) (by omega) hG (by omega) (fun s hs => ?_)
        rw [hGv (num s) (numN_lt hs), hf s hs, hF.2 s hs, fz_some]
        rfl) (2 ^ ks.length) 0 acc (Nat.zero_add _) hl (fun i hi => absurd hi (Nat.not_lt_zero i)) (fun _ _ => rfl)
      rw [show c + (cnt (clsK ks) ((List.range' (i + 1) d).map (stOf ks.length)) (fun t => f t || clsK ks (stOf ks.length i) t) + 1) = c + 1 + cnt (clsK ks) ((List.range' (i + 1) d).map (stOf ks.length)) (fun t => f t || clsK ks (stOf ks.length i) t) by omega]
      refine Ev.step (f := fun k => (spec_riState.f k (ks.length : Int) (i : Int)).bind fun t152 => ((spec_keFar.f k (ks.map tx) t152).bind fun bt153 => (spec_keParts.l1 k (ks.map tx) acc ((c + 1 : Nat) : Int) ((2 ^ ks.length : Nat) : Int) (i : Int) bt153.1 (bt153.1.length : Int) 0))) (fun k => ?_) (Ev.bind hr (Ev.bind e h1))
      simp only [spec_keParts.l0]
      rw [if_pos (Int.ofNat_lt.2 hil), if_pos (Int.natCast_nonneg _), if_pos (show (i : Int) < (acc.length : Int) from Int.ofNat_lt.2 (by omega)), rdB, hv, if_neg Bool.false_ne_true, List.length_map, succ64 (n := c) (by omega)]
theorem keParts {ks : List Stt} (hk : keysOk ks = true) : Ev (fun k => spec_keParts.f k (ks.map tx)) ((partsK ks : Nat) : Int) := by
  obtain ⟨⟨kl1, kl2⟩, k3⟩ := keys_parts hk
  have hp := pow10 kl2
  have h := kp_l0 hk (2 ^ ks.length) 0 (List.replicate (2 ^ ks.length) false) (fun _ => false) 0 (Nat.zero_add _) (List.length_replicate ..) (Nat.le_refl _) (fun s hs => by
    rw [List.getD_eq_getElem?_getD, List.getElem?_replicate, if_pos (numN_lt hs)]
    rfl)
  rw [parts_num hk, Nat.zero_add] at h
  unfold spec_keParts.f
  refine Ev.congr (fun k => ?_) h
  rw [List.length_map, shl_one ks.length (by omega), if_pos (Int.natCast_nonneg _), Int.toNat_natCast, if_pos (by omega), obind, List.length_replicate]
  rfl

/-! ### The program's count -/
/-- What is seen, as a function of texts. -/
def mB (g : Stt → Bool) : ByteArray → Bool := fun b => g b.data.toList
theorem mB_tx (g : Stt → Bool) (s : Stt) : mB g (tx s) = g s := by unfold mB; rw [tx_data]
theorem mB_upd (g : Stt → Bool) (t : Stt) : MapB.upd (mB g) (tx t) = mB (fun s => if s = t then true else g s) := by
  funext b
  simp only [MapB.upd, mB, toL_eq]
theorem po_l1 (srch : Nat → ByteArray → Option (List ByteArray)) (ss : List ByteArray) (q : List Stt) (hq : q.length ≤ 1024) (hs : ∀ s ∈ q, (tx s).size ≤ maxLen) (n i R : Int) : ∀ d j (c : Nat) (g : Stt → Bool), j + d = q.length → c + d ≤ 2000000 →
    Ev (fun k => impl_partsOf.l0 srch ss k (mB (fun s => g s || (q.drop j).contains s)) (c + d) n (wrap64 (i + 1))) R →
    Ev (fun k => impl_partsOf.l1 srch ss k (q.map tx) (mB g) c n i (j : Int)) R := by
  intro d
  induction d with
  | zero =>
    intro j c g hj hc H
    have e : (fun s => g s || (q.drop j).contains s) = g := by
      funext s
      rw [List.drop_eq_nil_of_le (by omega)]
      simp
    rw [e] at H
    refine Ev.step (fun k => ?_) H
    simp only [impl_partsOf.l1]
    rw [List.length_map, if_neg (show ¬ (j : Int) < (q.length : Int) from fun h => by have := Int.ofNat_lt.1 h; omega)]
    rfl
  | succ d ih =>
    intro j c g hj hc H
    have hjl : j < q.length := by omega
    have e : (fun s => (if s = q[j] then true else g s) || (q.drop (j + 1)).contains s) = (fun s => g s || (q.drop j).contains s) := by
      funext s
      rw [List.drop_eq_getElem_cons hjl, List.contains_cons]
      by_cases h : s = q[j]
      · rw [if_pos h, beq_iff_eq.2 h]
        simp
      · rw [if_neg h, beq_eq_false_iff_ne.2 h, Bool.false_or]
    have h := ih (j + 1) (c + 1) (fun s => if s = q[j] then true else g s) (by omega) (by omega) (by
      rw [e, show c + 1 + d = c + (d + 1) by omega]
      exact H)
    refine Ev.step (fun k => ?_) h
    simp only [impl_partsOf.l1]
    rw [List.length_map, if_pos (Int.ofNat_lt.2 hjl), if_pos (Int.natCast_nonneg _), rdM hjl, if_pos ⟨hs _ (List.getElem_mem hjl), by omega⟩, mB_upd, succ64 (by omega)]
theorem far_mem {ks : List Stt} (hk : keysOk ks = true) {s : Stt} (hs : okN ks.length s) (t : Stt) : (foundK ks s).q.contains t = clsK ks s t := by
  have h := (clsK_final hk hs).iff t
  unfold clsK
  cases e : ((foundK ks s).far t).isSome with
  | true => exact List.contains_iff_mem.2 (h.1 e)
  | false =>
    rw [e] at h
    cases e2 : (foundK ks s).q.contains t with
    | false => rfl
    | true => exact absurd (h.2 (List.contains_iff_mem.1 e2)) Bool.false_ne_true
theorem ar_p {c i q : Nat} (h : c ≤ i * 1024) (h1 : i < 1024) (h2 : q ≤ 1024) : c + q ≤ 2000000 := by omega
theorem ar_q {c i q : Nat} (h : c ≤ i * 1024) (h2 : q ≤ 1024) : c + q ≤ (i + 1) * 1024 := by omega
theorem po_l0 {ks : List Stt} (hk : keysOk ks = true) (L : List Stt) (hL : L.length ≤ 1024) (hok : ∀ s ∈ L, okN ks.length s) : ∀ d i (g : Stt → Bool) (c n : Nat), i + d = L.length → n ≤ i → c ≤ i * 1024 →
    Ev (fun k => impl_partsOf.l0 (impl_PartsByKeys_1.f (ks.map tx)) (L.map tx) k (mB g) c (n : Int) (i : Int)) ((n + cnt (clsK ks) (L.drop i) g : Nat) : Int) := by
  obtain ⟨⟨kl1, kl2⟩, k3⟩ := keys_parts hk
  have hp := pow10 kl2
  intro d
  induction d with
  | zero =>
    intro i g c n hi hn hc
    rw [List.drop_eq_nil_of_le (by omega)]
    refine Ev.step (f := fun _ => some (n : Int)) (fun k => ?_) (Ev.now _)
    simp only [impl_partsOf.l0]
    rw [List.length_map, if_neg (fun h => by have := Int.ofNat_lt.1 h; omega)]
  | succ d ih =>
    intro i g c n hi hn hc
    have hil : i < L.length := by omega
    have ho := hok _ (List.getElem_mem hil)
    have hsz := ok_smallK kl2 ho
    rw [List.drop_eq_getElem_cons hil]
    unfold cnt
    by_cases hs : g L[i] = true
    · rw [if_pos hs]
      refine Ev.step (fun k => ?_) (ih (i + 1) g c n (by omega) (by omega) (Nat.le_trans hc (Nat.mul_le_mul_right 1024 (Nat.le_succ i))))
      simp only [impl_partsOf.l0]
      rw [List.length_map, if_pos (Int.ofNat_lt.2 hil), if_pos (Int.natCast_nonneg _), rdM hil, if_pos hsz, mB_tx, if_pos hs, succ64 (by omega)]
    · rw [if_neg hs]
      have hsr : Ev (fun k => impl_PartsByKeys_1.f (ks.map tx) k (tx L[i])) ((foundK ks L[i]).q.map tx) := by
        unfold impl_PartsByKeys_1.f
        exact Ev.bind (f := fun _ (q : List ByteArray × (ByteArray → Option Int) × (ByteArray → Option Int)) => some q.1) (search_runK hk L[i] ho) (Ev.now _)
      obtain ⟨hI, hG⟩ := found_good (setupK hk) ho
      have hql : (foundK ks L[i]).q.length ≤ 2 ^ ks.length := hG.len (setupK hk) hI.nodup
      have hqs : ∀ s ∈ (foundK ks L[i]).q, (tx s).size ≤ maxLen := fun s h => ok_smallK kl2 (hG.ok s h)
      have h1 := po_l1 (impl_PartsByKeys_1.f (ks.map tx)) (L.map tx) (foundK ks L[i]).q (by omega) hqs ((n + 1 : Nat) : Int) (i : Int) (((n + 1) + cnt (clsK ks) (L.drop (i + 1)) (fun t => g t || clsK ks L[i] t) : Nat) : Int) (foundK ks L[i]).q.length 0 c g (Nat.zero_add _) (ar_p hc (by omega) (by omega)) (by
        rw [List.drop_zero, succ64 (by omega)]
        have e : (fun s => g s || (foundK ks L[i]).q.contains s) = (fun t => g t || clsK ks L[i] t) := by
          funext t
          rw [far_mem hk ho]
        rw [e]
        exact ih (i + 1) _ (c + (foundK ks L[i]).q.length) (n + 1) (by omega) (by omega) (ar_q hc (by omega)))
      rw [show n + (cnt (clsK ks) (L.drop (i + 1)) (fun t => g t || clsK ks L[i] t) + 1) = (n + 1) + cnt (clsK ks) (L.drop (i + 1)) (fun t => g t || clsK ks L[i] t) by omega]
      refine Ev.step (f := fun k => (impl_PartsByKeys_1.f (ks.map tx) k (tx L[i])).bind fun ts => impl_partsOf.l1 (impl_PartsByKeys_1.f (ks.map tx)) (L.map tx) k ts (mB g) c ((n + 1 : Nat) : Int) (i : Int) 0) (fun k => ?_) (Ev.bind hsr h1)
      simp only [impl_partsOf.l0]
      rw [List.length_map, if_pos (Int.ofNat_lt.2 hil), if_pos (Int.natCast_nonneg _), rdM hil, if_pos hsz, mB_tx, if_neg hs, succ64 (n := n) (by omega)]
theorem partsOf {ks : List Stt} (hk : keysOk ks = true) : Ev (fun k => impl_partsOf.f (impl_PartsByKeys_1.f (ks.map tx)) k ((tsK ks.length).map tx)) ((partsK ks : Nat) : Int) := by
  obtain ⟨⟨kl1, kl2⟩, k3⟩ := keys_parts hk
  have hp := pow10 kl2
  have hl := tsK_length ks.length
  have h := po_l0 hk (tsK ks.length) (by omega) (tsK_ok ks.length) (tsK ks.length).length 0 (fun _ => false) 0 0 (Nat.zero_add _) (Nat.le_refl _) (Nat.zero_le _)
  rw [List.drop_zero, Nat.zero_add] at h
  exact h
def resK (ks : List Stt) : Int × Bool := if keysOk ks = true then ((partsK ks : Nat), true) else (0, false)
theorem specParts (ks : List Stt) (hn : ks.length ≤ 1048576) : Ev (fun k => spec_PartsByKeys.f k (ks.map tx)) (resK ks) := by
  unfold spec_PartsByKeys.f resK
  refine Ev.bind (keGood ks (by omega)) ?_
  cases hk : keysOk ks with
  | false => exact Ev.congr (fun k => by rw [if_neg Bool.false_ne_true, if_neg Bool.false_ne_true]) (Ev.now _)
  | true => exact Ev.congr (fun k => by rw [if_pos rfl]) (by rw [if_pos rfl]; exact Ev.bind (f := fun _ t => some (t, true)) (keParts hk) (Ev.now _))
theorem implParts (ks : List Stt) (hn : ks.length ≤ 1048576) : Ev (fun k => impl_PartsByKeys.f k (ks.map tx)) (resK ks) := by
  unfold impl_PartsByKeys.f resK
  refine Ev.bind (areKeys ks (by omega)) ?_
  cases hk : keysOk ks with
  | false => exact Ev.congr (fun k => by rw [if_neg Bool.false_ne_true, if_neg Bool.false_ne_true]) (Ev.now _)
  | true =>
    obtain ⟨⟨kl1, kl2⟩, k3⟩ := keys_parts hk
    have ht := textStates ks.length kl2
    exact Ev.congr (fun k => by rw [if_pos rfl, List.length_map]) (by rw [if_pos rfl]; exact Ev.bind ht (Ev.bind (f := fun _ t => some (t, true)) (partsOf hk) (Ev.now _)))
end Go.Proofs.YtnmepnpjjnonmaaDoor.Lem
