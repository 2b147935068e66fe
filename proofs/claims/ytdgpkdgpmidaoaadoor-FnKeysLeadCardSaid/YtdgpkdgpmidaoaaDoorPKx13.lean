/-
  The law's walk, part 3.
-/
import Derived.Test.YtdgpkdgpmidaoaaDoorPKx12
namespace Go.Proofs.YtdgpkdgpmidaoaaDoor.PK
open Go.RowKit Go.Proofs.YtdgpkdgpmidaoaaDoorW.PrintWords Go.Proofs.YtdgpkdgpmidaoaaDoorW.PrintLast Go.Proofs.YtdgpkdgpmidaoaaDoorW.PrintMore
attribute [local go_sem] max2_int min2_int max_two min_two max_three min_three max_four min_four   -- for this text's walks alone
set_option linter.unusedVariables false
set_option linter.unusedSimpArgs false

set_option maxHeartbeats 40000000 in
set_option maxRecDepth 100000 in
theorem laws_FnKeysLead.part3 : laws_FnKeysLead.part2.1 := by
 intro k A0 c0 l0 A1 c1 l1 r w HR0 HC0 HR1 HC1 A3 t380 t383 t384 A5 t385 t386 A6 t389 t390 A7 t393 t394 A8 t395 t396 A9 t397 t398 A10 t399 t400 A11 _ nd _ w13 Ao14 co14 w15 v387 w16 v391 w17 w18 w19 w20 HO382 HO388 HO392 _ _ _ _ _ _ _ _ _ _ _ _ _ _ _ _ _ _ _ _ _ _ _ _ _ _ _ _ _ _ _ _ _ _ _ _ _ _ _ _ _ _ _ _ _ _ _ _ _ _ _ _ _ _ _ _ _ _ _ _ _ _ _ _ _ _ _ _ _ _ _ _ _ _ _ _ _ _ _ _ _ _ _ _ _ _ _ _ _ _ _ _ _ _ _ _ _ _ _ _ _ _ _ _ _ _ _ _ _ _ _ _ _ _ _ _ _ _ _ _ _ _ _ _ _ _ _ _ _ _ _ _ _ _ _ _ _ _ _ _ _ _ _ _ _ _ _ _ _ _ _ _ _ _ _ _ _ _ _ _ _ _ _ _ _ _ _ _ _ _ _ _ _ _ _ _ _ _ _ _ _ _ _ _ _ _ _ _ _ _ _ _ _ _ _ _ _ _ _ _ _ _ _ _ _ _ _ _ _ _ _ _ _ _ _ _ _ _ _ _ _ _ _ _ _ _ _ _ _ _ _ _ _ _ _ _ _ _ _ _ _ _ _ _ _ _ _ _ _ _ _ _ _ _ _ _ _ _ _ _ _ _ _ _ _ _ _ _ _ _ _ _ _ _ _ _ _ _ _ _ _ _ _ _ _ _ _ _ _ _ _ _ _ _ _ _ _ _ _ _ _ _ _ _ _ _ _ _ _ _ _ _ _ _ _ _ _ _ _ _ _ _ _ _ _ _ _ _ _ _ _ _ _ _ _ _ _ _ _ _ _ _ _ _ _ _ _ _ _ _ _ _ _ _ _ _ _ _ _ _ _ _ _ _ _ _ _ _ _ _ _ _ _ _ _ _ _ _ _ _ _ _ _ _ _ _ _ _ _ _ _ _ _ _ _ _ _ _ _ _ _ _ _ _ _ _ _ _ _ _ _ _ _ _ _ _ _ _ _ _ _ HO_5 HO_8 _ kj11 HJ11 _ u4 u20 u22 u23 u24 u25 u26 u27 u28 u29 u30 u31 u32 _ _ _ _ _ _ _ _ _ _ _ _ _ _ _ _ _ _ _ _ _ _ _ _ _ _ _ _ _ _ _ _ _ _ _ _ _ _ _ _ _ _ _ _ _ _ _ _ _ _ _ _ _ _ _ _ _ _ _ _ _ _ _ _ _ _ _ _ _ _ _ _ _ _ _ _ _ _ _ _ _ _ _ _ _ _ _ _ _ _ _ _ _ _ _ _ _ _ _ _ _ _ _ u170 u171 u172 _ _ _ _ _ _ _ _ _ _ _ _ _ _ _ _ _ _ _ _ _ _ _ _ _ _ _ _ _ _ _ _ _ _ _ _ _ _ _ _ _ _ _ _ _ _ _ _ _ _ _ _ _ _ _ _ _ _ _ _ _ _ _ _ _ _ _ _ _ _ _ _ _ _ _ _ _ _ _ _ _ _ _ _ _ _ _ _ _ _ _ _ _ _ _ _ _ _ _ _ _ _ _ _ _ _ _ _ _ _ _ _ _ _ _ _ _ _ _ _ _ _ _ _ _ _ _ _ _ _ _ _ _ _ _ _ _ _ _ _ _ _ _ _ _ _ _ _ _ _ _ _ _ _ _ _ _ _ _ _ _ _ _ _ _ _ _ _ _ _ _ _ _ _ _ _ _ _ _ _ _ _ _ _ _ _ _ _ _ _ _ _ _ _ _ _ _ _ _ _ _ _ _ _ _ _ _ _ _ _ _ _ _ _ _ _ _ _ _ _ _ _ _ _ _ _ _ _ _ _ _ _ _ _ _ _ _ _ _ _ _ _ _ _ _ _ _ _ _ _ _ _ _ _ _ _ _ _ _ _ _ _ _ _ _ _ _ _ _ _ _ _ _ _ _ _ _ _ _ _ _ _ _ _ _ _ _ _ _ _ _ _ _ _ _ _ _ _ _ _ _ _ _ _ _ _ _ _ _ _ _ _ _ _ _ _ _ kj55 HJ55 t413 t416 A113 t417 t418 A114 t421 t422 A115 t425 t426 A116 t427 t428 A117 t429 t430 t431 A118 t432 t433 t434 A119 t435 t438 t439 A120 t440 t441 A121 t442 t443 A122 t444 t445 A123 t446 t447 A124 HC125 w126 Ao127 co127 w128 v419 w129 v423 w130 w131 w132 w133 w134 Ao135 co135 w136 w137 w138 w139 HO415 HO420 HO424 HO437 HB _ _ _ _ wc u67 u68 u69 u70 u71 u72 u73 u74 u75 u76 u77 u78 u79 u80 u81 u82 u83 u84 u85 u86 u87 u88 u89 u90 u91 u92 u93 u94 u95 u96 u97 u98 u99 u100 u101 u102 u103 u104 u105 u106 u107 u108 u109 u110 u111 u112 u113 u114 u115 u116 u117 u118 u119 u120 u121 u122 u123 u124 u125 u126 u127 u128 u129 u130 u131 u132 u133 u134 u135 u136 u137 u138 u139 u140 u141 u142 u143 u144 u145 u146 u147 u148 u149 u150 u151 u152 u153 u154 u155 u156 u157 u158 u159 u160 u161 u162 u163 u164 u165 u166 u167 u168 u169 u173 u174 u175 u176 u177 u178 u179 u180 u181 u182 u183 u184 u185 u186 u187 u188 u189 u190 u191 u192 u193 u194 u195 u196 u197 u198 u199 u200 u201 u202 u203 u204 u205 u206 u207 u208 u209 u210 u211 u212 u213 u214 u215 u216 u217 u218 u219 u220 u221 u222 u223 u224 u225 u226 u227 u228 u229 u230 u231 u232 u233 u234 u235 u236 u237 u238 u239 u240 u241 u242 u243 u244 u245 u246 u247 u248 u249 u250 u251 u252 u253 u254 u255 u256 u257 u258 u259 u260 u261 u262 u263 u264 u265 u266 u267 u268 u269 u270 u271 u272 u273 u274 u275 u276 u277 u278 u279 u280 u281 u282 u283 u284 u285 u286 u287 u288 u289 u290 u291 u292 u293 u294 u295 u296 u297 u298 u299 u300 u301 u302 u303 u304 u305 u306 u307 u308 u309 u310 u311 u312 u313 u314 u315 u316 u317 u318 u319 u320 u321 u322 u323 u324 u325 u326 u327 u328 u329 u330 u331 u332 u333 u334 u335 u336 u337 u338 u339 u340 u341 u342 u343 u344 u345 u346 u347 u348 u349 u350 u351 u352 u353 u354 u355 u356 u357 u358 u359 u360 u361 u362 u363 u364 u365 u366 u367 u368 u369 u370 u371 u372 u373 u374 u375 u376 u377 u378 u379 u380 u381 u382 u383 u384 u385 u386 u387 u388 u389 u390 u391 u392 u393 u394 u395 u396 u397 u398 u399 u400 u401 u402 u403 u404 u405 u406 u407 u408 u409 u410 u411 u412 u413 u414 u415 u416 u417 u418 u419 u420 u421 u422 u423 u424 u425 u426 u427 u428 u429 u430 u431 u432 u433 u434 u435 u436 u437 u438 u439 u440 u441 u442 u443 u444 u445 u446 u447 u448 u449 u450 u451 u452 u453 u454 u455 u456 u459 u460 u461 u462 u463 u464 u465 u466 u467 u468 u469 u470 u471 u472 u473 u474 u475 u476 u477 u478 u479 u480 u481 u482 u483 u484 u485 u486 u487 u488 u489 u490 u491 hcut
 clear HC125
 try clear c1
 try clear c2
 try clear p2
 try clear c3
 try clear c4
 try clear p4
 try clear q4
 try clear hx4
 try clear c5
 try clear c6
 try clear p6
 try clear c7
 try clear c8
 try clear c9
 try clear c10
 try clear c11
 try clear c13
 try clear c14
 try clear c15
 try clear c16
 try clear c17
 try clear c18
 try clear c19
 try clear c20
 try clear c21
 try clear c21b0
 try clear c21b1
 try clear c21b2
 try clear c22
 try clear c23
 try clear c24
 try clear c24b0
 try clear c24b1
 try clear c24b2
 try clear c27
 try clear c27b0
 try clear c27b1
 try clear c28
 try clear c28b0
 try clear c28b1
 try clear c28b2
 try clear c31
 try clear c31b0
 try clear c31b1
 try clear c32
 try clear c32b0
 try clear c32b1
 try clear c32b2
 try clear c35
 try clear c36
 try clear c36b0
 try clear c36b1
 try clear c36b2
 try clear c39
 try clear p40
 try clear q40
 try clear hx40
 try clear c44
 try clear c55
 try clear c57
 try clear c59
 try clear c59b0
 try clear c60
 try clear c60b0
 try clear c61
 try clear c61b0
 try clear c64
 try clear p64
 try clear c65
 try clear c66
 try clear c78
 try clear c78b0
 try clear c78b1
 try clear c79
 try clear c79b0
 try clear c79b1
 try clear c80
 try clear c81
 try clear c81b0
 try clear c81b1
 try clear c82
 try clear c83
 try clear c84
 try clear c84b0
 try clear c84b1
 try clear c85
 try clear c85b0
 try clear c140
 try clear c140b0
 try clear c140b1
 try clear c140b2
 try clear c142
 try clear c143
 try clear c143b0
 try clear c143b1
 try clear c143b2
 try clear c146
 try clear c146b0
 try clear c146b1
 try clear c147
 try clear c147b0
 try clear c147b1
 try clear c147b2
 try clear c150
 try clear c150b0
 try clear c150b1
 try clear c151
 try clear c151b0
 try clear c151b1
 try clear c152
 try clear c152b0
 try clear c152b1
 try clear c152b2
 try clear c155
 try clear c155b0
 try clear c155b1
 try clear c155b2
 try clear c158
 try clear c158b0
 try clear c158b1
 try clear c158b2
 try clear c161
 try clear c161b0
 try clear c161b1
 try clear c162
 try clear c162b0
 try clear c162b1
 try clear c162b2
 try clear c165
 try clear c165b0
 try clear c165b1
 try clear c165b2
 try clear c168
 try clear c169
 try clear c169b0
 try clear c169b1
 try clear c169b2
 try clear c174
 try clear c174b0
 try clear c174b1
 try clear c174b2
 try clear c178
 try clear c187
 try clear c187b0
 try clear c187b1
 try clear c187b2
 try clear c192
 try clear c192b0
 try clear c192b1
 try clear c192b2
 try clear c196
 try clear hx402_0
 try clear p2
 try clear p40
 try clear p402
 try clear p6
 try clear p64
 try clear q40
 try clear q402
 obtain ⟨kq, x420_124, rfl, HA, HJ124, HO_33, HO_35, HO_49, HB⟩ := hcut
 cases kq with
 | zero => exact absurd HA.out (by simp [laws_FnKeysLead.j3])
 | succ kj124 =>
  have H := HA.out
  clear HA
  simp only [laws_FnKeysLead.j3] at H
  by_cases c215 : x420_124 = true
  ·subst c215
   have H1 : (none) = some r := by rw [if_pos rfl] at H; exact H
   exact absurd H1 (by simp)
  ·as_aux_lemma =>
    replace c215 := Bool.eq_false_iff.mpr c215
    subst c215
    have H1 : (if t418 = true then ((impl_FewestKeyed.f kj124 t413 t416 t429).bind fun bt455 => (if bt455.2 = true then (if bt455.1 = t430 then (if ((t425 == 1) != ((t417.length : Int) == 0)) = true then (none) else (if ((t430 == 0) != (t425 == 1)) = true then (none) else (laws_FnKeysLead.j4 kj124 t413 t416 t417 t435 t438 t439 t440 t441 (decide (t430 ≥ t425))))) else (none)) else (none))) else (if t441 = true then ((impl_MoveKeyed.f kj124 t435 t440 t439).bind fun bt462 => (if bt462.2 = true then (some (bt462.1.toList == t438.toList)) else (none))) else (some true))) = some r := by rw [if_neg (show ¬ (false = true) by decide)] at H; exact H
    clear H; have H := H1; clear H1
    by_cases c216 : t418 = true
    ·as_aux_lemma =>
      subst c216
      have H1 : ((impl_FewestKeyed.f kj124 t413 t416 t429).bind fun bt455 => (if bt455.2 = true then (if bt455.1 = t430 then (if ((t425 == 1) != ((t417.length : Int) == 0)) = true then (none) else (if ((t430 == 0) != (t425 == 1)) = true then (none) else (laws_FnKeysLead.j4 kj124 t413 t416 t417 t435 t438 t439 t440 t441 (decide (t430 ≥ t425))))) else (none)) else (none))) = some r := by rw [if_pos rfl] at H; exact H
      clear H; have H := H1; clear H1
      replace H := Option.bind_eq_some_iff.mp H
      obtain ⟨⟨t455, t456⟩, A2170, H⟩ := H
      replace H : (if t456 = true then (if t455 = t430 then (if ((t425 == 1) != ((t417.length : Int) == 0)) = true then (none) else (if ((t430 == 0) != (t425 == 1)) = true then (none) else (laws_FnKeysLead.j4 kj124 t413 t416 t417 t435 t438 t439 t440 t441 (decide (t430 ≥ t425))))) else (none)) else (none)) = some r := H
      have A217 := aM A2170
      clear A2170
      have HC218 := aM H
      clear H
      go_upto_region 44 with (first | ((with_reducible refine gate_callee (f := 8) rfl ?_); refine goesL_ (some 426) rfl rfl Tryd.func8 (by kernel_rfl) rfl #[.slice Ao127 t413.length co127, .string t416, .string t429] rfl (by (try simp only [List.map_toArray, List.map_cons, List.map_nil]); first | done | rfl | (simp only [List.length_drop, List.length_take]; rfl)) ?_; (with_reducible refine (impl_FewestKeyed.calls kj124 _ _ t413 t416 t429 t455 t456 _ ?side1 ?side2 A217.out).mono ?_); (case side1 => repeat (first | exact (Kd.V_reads' HO_33.out).2.2 | (with_reducible refine cA ?_ _) | (with_reducible refine cN ?_ _) | (with_reducible refine cD ?_))); (case side2 => exact (Kd.V_reads' HO_33.out).2.1); rintro e w219 ⟨rfl, hb⟩; refine ⟨_, rfl, ?_⟩; have n0_ := aM (Kd.V_below (by (with_reducible repeat (first | apply Kd.V_alloc | apply Kd.V_drewN | apply Kd.V_drew)); exact HO_33.out) hb); have n1_ := aM (Kd.R_below (by (with_reducible repeat (first | apply rA | apply rN | apply rD)); exact HO_35.out) hb); have n2_ := aM (Kd.V_below (by (with_reducible repeat (first | apply Kd.V_alloc | apply Kd.V_drewN | apply Kd.V_drew)); exact HO_49.out) hb); have n3_ := aM (below_step (by repeat (first | (with_reducible first | exact HB.out | apply bA | apply bN | apply bD) | exact HB.out)) hb); clear HO_33; clear HO_35; clear HO_49; clear HB; have HO_33 := n0_; have HO_35 := n1_; have HO_49 := n2_; have HB := n3_; clear n0_ n1_ n2_ n3_; (try clear hb); (try clear hb2); (try clear hk); (try clear hi)))
      (try simp only [Act.put, sA, sB, sC])
      go_cut [455] (fun v455 wc => ∃ (kq : Nat) (x455_217 : Bool), v455 = .bool x455_217 ∧ Aside0 (laws_FnKeysLead.j4 kq t413 t416 t417 t435 t438 t439 t440 t441 x455_217 = some r) ∧ Aside0 (kq ≤ kj124) ∧ Aside0 (Kd.V Kd.string 9 wc w.heap.size (fun k_ => some k_ ≠ (v419 : Value).ownBlock) (.slice Ao127 t413.length co127) t413) ∧ Aside0 (Kd.R (Kd.int .i64) 3 wc w.heap.size (fun _ => True) v419 t417) ∧ Aside0 (Kd.V Kd.string 9 wc w.heap.size (fun k_ => some k_ ≠ (v419 : Value).ownBlock) (.slice Ao135 t435.length co135) t435) ∧ Aside0 (Below w.heap.size w wc))
      case first =>
       as_aux_lemma =>
        have H := HC218.out
        clear HC218
        by_cases c220 : t456 = true
        ·subst c220
         have H1 : (if t455 = t430 then (if ((t425 == 1) != ((t417.length : Int) == 0)) = true then (none) else (if ((t430 == 0) != (t425 == 1)) = true then (none) else (laws_FnKeysLead.j4 kj124 t413 t416 t417 t435 t438 t439 t440 t441 (decide (t430 ≥ t425))))) else (none)) = some r := by rw [if_pos rfl] at H; exact H
         clear H; have H := H1; clear H1
         by_cases c221 : t455 = t430
         ·rw [if_pos c221] at H
          have c221b0 : (t455 == t430) = true := beq_iff_eq.mpr c221
          have c221b1 : (t455 != t430) = false := bne_eq_false_iff_eq.mpr c221
          clear c221
          (first | rw [c221b0] | (simp only [i64_w, i32_w]; rw [c221b0]) | skip)
          by_cases c222 : ((t425 == 1) != ((t417.length : Int) == 0)) = true
          ·rw [if_pos c222] at H
           exact absurd H (by simp)
          ·rw [if_neg c222] at H
           have c222b0 : ((t425 == 1) != ((t417.length : Int) == 0)) = false := by simpa using c222
           (try (have c222b1 : decide ((t425 == 1) = ((t417.length : Int) == 0)) = true := by simpa using c222))
           (try (have c222b2 : ((t425 == 1) == ((t417.length : Int) == 0)) = true := by simpa using c222))
           clear c222
           by_cases c224 : ((t430 == 0) != (t425 == 1)) = true
           ·rw [if_pos c224] at H
            exact absurd H (by simp)
           ·as_aux_lemma =>
             rw [if_neg c224] at H
             have c224b0 : ((t430 == 0) != (t425 == 1)) = false := by simpa using c224
             (try (have c224b1 : decide ((t430 == 0) = (t425 == 1)) = true := by simpa using c224))
             (try (have c224b2 : ((t430 == 0) == (t425 == 1)) = true := by simpa using c224))
             clear c224
             have H' := aM H
             clear H
             obtain ⟨Ao226, co226, eo226⟩ := Kd.R_slice HO_35.out
             subst eo226
             go_wp2
             go_meet
             case rel => exact ⟨_, (decide (t430 ≥ t425)), (by first | rfl | (simp; done) | (simp [*]; done)), H', ⟨by have := HJ11.out; have := HJ55.out; have := HJ124.out; first | omega | exact Nat.le_refl _⟩, ⟨by (with_reducible repeat (first | apply Kd.V_alloc | apply Kd.V_drewN | apply Kd.V_drew)); exact HO_33.out⟩, ⟨by (with_reducible repeat (first | apply rA | apply rN | apply rD)); exact HO_35.out⟩, ⟨by (with_reducible repeat (first | apply Kd.V_alloc | apply Kd.V_drewN | apply Kd.V_drew)); exact HO_49.out⟩, ⟨by repeat (first | (with_reducible first | exact HB.out | apply bA | apply bN | apply bD) | exact HB.out)⟩⟩
         ·rw [if_neg c221] at H
          exact absurd H (by simp)
        ·replace c220 := Bool.eq_false_iff.mpr c220
         subst c220
         have H1 : (none) = some r := by rw [if_neg (show ¬ (false = true) by decide)] at H; exact H
         exact absurd H1 (by simp)
      case rest =>
       as_aux_lemma =>
        clear HC218
        try clear c1
        try clear c2
        try clear p2
        try clear c3
        try clear c4
        try clear p4
        try clear q4
        try clear hx4
        try clear c5
        try clear c6
        try clear p6
        try clear c7
        try clear c8
        try clear c9
        try clear c10
        try clear c11
        try clear c13
        try clear c14
        try clear c15
        try clear c16
        try clear c17
        try clear c18
        try clear c19
        try clear c20
        try clear c21
        try clear c21b0
        try clear c21b1
        try clear c21b2
        try clear c22
        try clear c23
        try clear c24
        try clear c24b0
        try clear c24b1
        try clear c24b2
        try clear c27
        try clear c27b0
        try clear c27b1
        try clear c28
        try clear c28b0
        try clear c28b1
        try clear c28b2
        try clear c31
        try clear c31b0
        try clear c31b1
        try clear c32
        try clear c32b0
        try clear c32b1
        try clear c32b2
        try clear c35
        try clear c36
        try clear c36b0
        try clear c36b1
        try clear c36b2
        try clear c39
        try clear p40
        try clear q40
        try clear hx40
        try clear c44
        try clear c55
        try clear c57
        try clear c59
        try clear c59b0
        try clear c60
        try clear c60b0
        try clear c61
        try clear c61b0
        try clear c64
        try clear p64
        try clear c65
        try clear c66
        try clear c78
        try clear c78b0
        try clear c78b1
        try clear c79
        try clear c79b0
        try clear c79b1
        try clear c80
        try clear c81
        try clear c81b0
        try clear c81b1
        try clear c82
        try clear c83
        try clear c84
        try clear c84b0
        try clear c84b1
        try clear c85
        try clear c85b0
        try clear c140
        try clear c140b0
        try clear c140b1
        try clear c140b2
        try clear c142
        try clear c143
        try clear c143b0
        try clear c143b1
        try clear c143b2
        try clear c146
        try clear c146b0
        try clear c146b1
        try clear c147
        try clear c147b0
        try clear c147b1
        try clear c147b2
        try clear c150
        try clear c150b0
        try clear c150b1
        try clear c151
        try clear c151b0
        try clear c151b1
        try clear c152
        try clear c152b0
        try clear c152b1
        try clear c152b2
        try clear c155
        try clear c155b0
        try clear c155b1
        try clear c155b2
        try clear c158
        try clear c158b0
        try clear c158b1
        try clear c158b2
        try clear c161
        try clear c161b0
        try clear c161b1
        try clear c162
        try clear c162b0
        try clear c162b1
        try clear c162b2
        try clear c165
        try clear c165b0
        try clear c165b1
        try clear c165b2
        try clear c168
        try clear c169
        try clear c169b0
        try clear c169b1
        try clear c169b2
        try clear c174
        try clear c174b0
        try clear c174b1
        try clear c174b2
        try clear c178
        try clear c187
        try clear c187b0
        try clear c187b1
        try clear c187b2
        try clear c192
        try clear c192b0
        try clear c192b1
        try clear c192b2
        try clear c196
        try clear c215
        try clear c216
        try clear c220
        try clear c221
        try clear c221b0
        try clear c221b1
        try clear c222
        try clear c222b0
        try clear c222b1
        try clear c222b2
        try clear c224
        try clear c224b0
        try clear c224b1
        try clear c224b2
        try clear hx402_0
        try clear p2
        try clear p4
        try clear p40
        try clear p402
        try clear p6
        try clear p64
        try clear q4
        try clear q40
        try clear q402
        obtain ⟨kq, x455_217, rfl, HA, HJ217, HO_33, HO_35, HO_49, HB⟩ := hcut
        cases kq with
        | zero => exact absurd HA.out (by simp [laws_FnKeysLead.j4])
        | succ kj217 =>
         have H := HA.out
         clear HA
         simp only [laws_FnKeysLead.j4] at H
         by_cases c227 : x455_217 = true
         ·subst c227
          have H1 : (none) = some r := by rw [if_pos rfl] at H; exact H
          exact absurd H1 (by simp)
         ·as_aux_lemma =>
           replace c227 := Bool.eq_false_iff.mpr c227
           subst c227
           have H1 : (laws_FnKeysLead.l1 kj217 t413 t416 t417 t435 t438 t439 t440 t441 (t413.length : Int) 0) = some r := by rw [if_neg (show ¬ (false = true) by decide)] at H; exact H
           clear H; have H := H1; clear H1
           have H' := aM H
           clear H
           go_wp2
           go_loopg [458] kj217 (fun kq v458 w' => ∃ (x458_5 : Int), v458 = .int .i64 x458_5 ∧ Aside0 (laws_FnKeysLead.l1 kq t413 t416 t417 t435 t438 t439 t440 t441 (t413.length : Int) x458_5 = some r) ∧ Aside0 (kq ≤ kj217) ∧ Aside0 (Kd.V Kd.string 9 w' w.heap.size (fun k_ => some k_ ≠ (v419 : Value).ownBlock) (.slice Ao127 t413.length co127) t413) ∧ Aside0 (Kd.R (Kd.int .i64) 3 w' w.heap.size (fun _ => True) v419 t417) ∧ Aside0 (Kd.V Kd.string 9 w' w.heap.size (fun k_ => some k_ ≠ (v419 : Value).ownBlock) (.slice Ao135 t435.length co135) t435) ∧ Aside0 (Below w.heap.size w w'))
           case atStart => exact ⟨(0), (by first | rfl | (simp; done) | (simp [*]; done)), H', ⟨Nat.le_refl _⟩, ⟨by (with_reducible repeat (first | apply Kd.V_alloc | apply Kd.V_drewN | apply Kd.V_drew)); exact HO_33.out⟩, ⟨by (with_reducible repeat (first | apply rA | apply rN | apply rD)); exact HO_35.out⟩, ⟨by (with_reducible repeat (first | apply Kd.V_alloc | apply Kd.V_drewN | apply Kd.V_drew)); exact HO_49.out⟩, ⟨by repeat (first | (with_reducible first | exact HB.out | apply bA | apply bN | apply bD) | exact HB.out)⟩⟩
           case round =>
            as_aux_lemma =>
             clear H'
             try clear c1
             try clear c2
             try clear p2
             try clear c3
             try clear c4
             try clear p4
             try clear q4
             try clear hx4
             try clear c5
             try clear c6
             try clear p6
             try clear c7
             try clear c8
             try clear c9
             try clear c10
             try clear c11
             try clear c13
             try clear c14
             try clear c15
             try clear c16
             try clear c17
             try clear c18
             try clear c19
             try clear c20
             try clear c21
             try clear c21b0
             try clear c21b1
             try clear c21b2
             try clear c22
             try clear c23
             try clear c24
             try clear c24b0
             try clear c24b1
             try clear c24b2
             try clear c27
             try clear c27b0
             try clear c27b1
             try clear c28
             try clear c28b0
             try clear c28b1
             try clear c28b2
             try clear c31
             try clear c31b0
             try clear c31b1
             try clear c32
             try clear c32b0
             try clear c32b1
             try clear c32b2
             try clear c35
             try clear c36
             try clear c36b0
             try clear c36b1
             try clear c36b2
             try clear c39
             try clear p40
             try clear q40
             try clear hx40
             try clear c44
             try clear c55
             try clear c57
             try clear c59
             try clear c59b0
             try clear c60
             try clear c60b0
             try clear c61
             try clear c61b0
             try clear c64
             try clear p64
             try clear c65
             try clear c66
             try clear c78
             try clear c78b0
             try clear c78b1
             try clear c79
             try clear c79b0
             try clear c79b1
             try clear c80
             try clear c81
             try clear c81b0
             try clear c81b1
             try clear c82
             try clear c83
             try clear c84
             try clear c84b0
             try clear c84b1
             try clear c85
             try clear c85b0
             try clear c140
             try clear c140b0
             try clear c140b1
             try clear c140b2
             try clear c142
             try clear c143
             try clear c143b0
             try clear c143b1
             try clear c143b2
             try clear c146
             try clear c146b0
             try clear c146b1
             try clear c147
             try clear c147b0
             try clear c147b1
             try clear c147b2
             try clear c150
             try clear c150b0
             try clear c150b1
             try clear c151
             try clear c151b0
             try clear c151b1
             try clear c152
             try clear c152b0
             try clear c152b1
             try clear c152b2
             try clear c155
             try clear c155b0
             try clear c155b1
             try clear c155b2
             try clear c158
             try clear c158b0
             try clear c158b1
             try clear c158b2
             try clear c161
             try clear c161b0
             try clear c161b1
             try clear c162
             try clear c162b0
             try clear c162b1
             try clear c162b2
             try clear c165
             try clear c165b0
             try clear c165b1
             try clear c165b2
             try clear c168
             try clear c169
             try clear c169b0
             try clear c169b1
             try clear c169b2
             try clear c174
             try clear c174b0
             try clear c174b1
             try clear c174b2
             try clear c178
             try clear c187
             try clear c187b0
             try clear c187b1
             try clear c187b2
             try clear c192
             try clear c192b0
             try clear c192b1
             try clear c192b2
             try clear c196
             try clear c215
             try clear c216
             try clear c220
             try clear c221
             try clear c221b0
             try clear c221b1
             try clear c222
             try clear c222b0
             try clear c222b1
             try clear c222b2
             try clear c224
             try clear c224b0
             try clear c224b1
             try clear c224b2
             try clear c227
             try clear hx402_0
             try clear p2
             try clear p4
             try clear p40
             try clear p402
             try clear p6
             try clear p64
             try clear q4
             try clear q40
             try clear q402
             obtain ⟨x458_5, rfl, HA, HK5, HO_33, HO_35, HO_49, HB⟩ := hrel
             cases gk with
             | zero => exact absurd HA.out (by simp [laws_FnKeysLead.l1])
             | succ k5 =>
              have H := HA.out
              clear HA
              simp only [laws_FnKeysLead.l1] at H
              by_cases c228 : x458_5 < (t413.length : Int)
              ·rw [if_pos c228] at H
               have c228b0 : decide (x458_5 < (t413.length : Int)) = true := decide_eq_true c228
               clear c228
               replace H := Option.bind_eq_some_iff.mp H
               obtain ⟨⟨t459, t460⟩, A2290, H⟩ := H
               replace H : (if t460 = true then ((laws_yHas.f k5 t417 x458_5).bind fun t461 => (if (t459 != t461) = true then (none) else (laws_FnKeysLead.l1 k5 t413 t416 t417 t435 t438 t439 t440 t441 (t413.length : Int) (wrap64 (x458_5 + 1))))) else (none)) = some r := H
               have A229 := aM A2290
               clear A2290
               by_cases c230 : t460 = true
               ·subst c230
                have H1 : ((laws_yHas.f k5 t417 x458_5).bind fun t461 => (if (t459 != t461) = true then (none) else (laws_FnKeysLead.l1 k5 t413 t416 t417 t435 t438 t439 t440 t441 (t413.length : Int) (wrap64 (x458_5 + 1))))) = some r := by rw [if_pos rfl] at H; exact H
                clear H; have H := H1; clear H1
                replace H := Option.bind_eq_some_iff.mp H
                obtain ⟨t461, A2310, H⟩ := H
                replace H : (if (t459 != t461) = true then (none) else (laws_FnKeysLead.l1 k5 t413 t416 t417 t435 t438 t439 t440 t441 (t413.length : Int) (wrap64 (x458_5 + 1)))) = some r := H
                have A231 := aM A2310
                clear A2310
                by_cases c232 : (t459 != t461) = true
                ·rw [if_pos c232] at H
                 exact absurd H (by simp)
                ·as_aux_lemma =>
                  rw [if_neg c232] at H
                  have c232b0 : (t459 != t461) = false := by simpa using c232
                  (try (have c232b1 : decide (t459 = t461) = true := by simpa using c232))
                  (try (have c232b2 : (t459 == t461) = true := by simpa using c232))
                  clear c232
                  have H' := aM H
                  clear H
                  go_wp2_with (first | ((with_reducible refine gate_callee (f := 13) rfl ?_); refine goesL_ (some 465) rfl rfl Tryd.func13 (by kernel_rfl) rfl #[.slice Ao127 t413.length co127, .string t416, .int .i64 x458_5] rfl (by (try simp only [List.map_toArray, List.map_cons, List.map_nil]); first | done | rfl | (simp only [List.length_drop, List.length_take]; rfl)) ?_; (with_reducible refine (impl_FitsKey.calls k5 _ _ t413 t416 x458_5 t459 true _ ?side1 ?side2 A229.out).mono ?_); (case side1 => repeat (first | exact (Kd.V_reads' HO_33.out).2.2 | (with_reducible refine cA ?_ _) | (with_reducible refine cN ?_ _) | (with_reducible refine cD ?_))); (case side2 => exact (Kd.V_reads' HO_33.out).2.1); rintro e w235 ⟨rfl, hb⟩; refine ⟨_, rfl, ?_⟩; have n0_ := aM (Kd.V_below (by (with_reducible repeat (first | apply Kd.V_alloc | apply Kd.V_drewN | apply Kd.V_drew)); exact HO_33.out) hb); have n1_ := aM (Kd.R_below (by (with_reducible repeat (first | apply rA | apply rN | apply rD)); exact HO_35.out) hb); have n2_ := aM (Kd.V_below (by (with_reducible repeat (first | apply Kd.V_alloc | apply Kd.V_drewN | apply Kd.V_drew)); exact HO_49.out) hb); have n3_ := aM (below_step (by repeat (first | (with_reducible first | exact HB.out | apply bA | apply bN | apply bD) | exact HB.out)) hb); clear HO_33; clear HO_35; clear HO_49; clear HB; have HO_33 := n0_; have HO_35 := n1_; have HO_49 := n2_; have HB := n3_; clear n0_ n1_ n2_ n3_; (try clear hb); (try clear hb2); (try clear hk); (try clear hi); obtain ⟨Ao236, co236, eo236⟩ := Kd.R_slice HO_35.out; subst eo236) | (go_at_call 27; (with_reducible refine (laws_yHas.calls k5 _ _ t417 x458_5 t461 _ ?side1 ?side2 A231.out).mono ?_); (case side1 => repeat (first | exact (Kd.R_reads' HO_35.out).2.2 | (with_reducible refine cA ?_ _) | (with_reducible refine cN ?_ _) | (with_reducible refine cD ?_))); (case side2 => exact (Kd.R_reads' HO_35.out).2.1); rintro e w' ⟨rfl, ⟨nd, rfl⟩⟩))
                  go_roundg k5
                  case measure => have := HJ11.out; have := HJ55.out; have := HJ124.out; have := HJ217.out; have := HK5.out; omega
                  case rel => exact ⟨(wrap64 (x458_5 + 1)), (by first | rfl | (simp; done) | (simp [*]; done)), H', ⟨by have := HJ11.out; have := HJ55.out; have := HJ124.out; have := HJ217.out; have := HK5.out; omega⟩, ⟨by (with_reducible repeat (first | apply Kd.V_alloc | apply Kd.V_drewN | apply Kd.V_drew)); exact HO_33.out⟩, ⟨by (with_reducible repeat (first | apply rA | apply rN | apply rD)); exact HO_35.out⟩, ⟨by (with_reducible repeat (first | apply Kd.V_alloc | apply Kd.V_drewN | apply Kd.V_drew)); exact HO_49.out⟩, ⟨by repeat (first | (with_reducible first | exact HB.out | apply bA | apply bN | apply bD) | exact HB.out)⟩⟩
               ·replace c230 := Bool.eq_false_iff.mpr c230
                subst c230
                have H1 : (none) = some r := by rw [if_neg (show ¬ (false = true) by decide)] at H; exact H
                exact absurd H1 (by simp)
              ·rw [if_neg c228] at H
               have c228b0 : decide (x458_5 < (t413.length : Int)) = false := decide_eq_false c228
               clear c228
               by_cases c238 : t441 = true
               ·subst c238
                have H1 : ((impl_MoveKeyed.f k5 t435 t440 t439).bind fun bt457 => (if bt457.2 = true then (some (bt457.1.toList == t438.toList)) else (none))) = some r := by rw [if_pos rfl] at H; exact H
                clear H; have H := H1; clear H1
                replace H := Option.bind_eq_some_iff.mp H
                obtain ⟨⟨t457, t458⟩, A2390, H⟩ := H
                replace H : (if t458 = true then (some (t457.toList == t438.toList)) else (none)) = some r := H
                have A239 := aM A2390
                clear A2390
                by_cases c240 : t458 = true
                ·as_aux_lemma =>
                  subst c240
                  have H1 : (some (t457.toList == t438.toList)) = some r := by rw [if_pos rfl] at H; exact H
                  clear H; have H := H1; clear H1
                  obtain rfl := Option.some.inj H
                  go_wp2_with (first | ((with_reducible refine gate_callee (f := 14) rfl ?_); refine goesL_ (some 483) rfl rfl Tryd.func14 (by kernel_rfl) rfl #[.slice Ao135 t435.length co135, .string t440, .int .i64 t439] rfl (by (try simp only [List.map_toArray, List.map_cons, List.map_nil]); first | done | rfl | (simp only [List.length_drop, List.length_take]; rfl)) ?_; (with_reducible refine (impl_MoveKeyed.calls k5 _ _ t435 t440 t439 t457 true _ ?side1 ?side2 A239.out).mono ?_); (case side1 => repeat (first | exact (Kd.V_reads' HO_49.out).2.2 | (with_reducible refine cA ?_ _) | (with_reducible refine cN ?_ _) | (with_reducible refine cD ?_))); (case side2 => exact (Kd.V_reads' HO_49.out).2.1); rintro e w241 ⟨rfl, hb⟩; refine ⟨_, rfl, ?_⟩; have n0_ := aM (Kd.V_below (by (with_reducible repeat (first | apply Kd.V_alloc | apply Kd.V_drewN | apply Kd.V_drew)); exact HO_33.out) hb); have n1_ := aM (Kd.R_below (by (with_reducible repeat (first | apply rA | apply rN | apply rD)); exact HO_35.out) hb); have n2_ := aM (Kd.V_below (by (with_reducible repeat (first | apply Kd.V_alloc | apply Kd.V_drewN | apply Kd.V_drew)); exact HO_49.out) hb); have n3_ := aM (below_step (by repeat (first | (with_reducible first | exact HB.out | apply bA | apply bN | apply bD) | exact HB.out)) hb); clear HO_33; clear HO_35; clear HO_49; clear HB; have HO_33 := n0_; have HO_35 := n1_; have HO_49 := n2_; have HB := n3_; clear n0_ n1_ n2_ n3_; (try clear hb); (try clear hb2); (try clear hk); (try clear hi)))
                  go_ret
                  exact ⟨by first | rfl | (simp [errW_none, errW_some] <;> rfl) | (simp [*, errW_none, errW_some] <;> rfl), by repeat (first | (with_reducible first | exact HB.out | apply bA | apply bN | apply bD) | exact HB.out)⟩
                ·replace c240 := Bool.eq_false_iff.mpr c240
                 subst c240
                 have H1 : (none) = some r := by rw [if_neg (show ¬ (false = true) by decide)] at H; exact H
                 exact absurd H1 (by simp)
               ·as_aux_lemma =>
                 replace c238 := Bool.eq_false_iff.mpr c238
                 subst c238
                 have H1 : (some true) = some r := by rw [if_neg (show ¬ (false = true) by decide)] at H; exact H
                 clear H; have H := H1; clear H1
                 obtain rfl := Option.some.inj H
                 go_wp2
                 go_ret
                 exact ⟨by first | rfl | (simp [errW_none, errW_some] <;> rfl) | (simp [*, errW_none, errW_some] <;> rfl), by repeat (first | (with_reducible first | exact HB.out | apply bA | apply bN | apply bD) | exact HB.out)⟩
    ·replace c216 := Bool.eq_false_iff.mpr c216
     subst c216
     have H1 : (if t441 = true then ((impl_MoveKeyed.f kj124 t435 t440 t439).bind fun bt462 => (if bt462.2 = true then (some (bt462.1.toList == t438.toList)) else (none))) else (some true)) = some r := by rw [if_neg (show ¬ (false = true) by decide)] at H; exact H
     clear H; have H := H1; clear H1
     by_cases c243 : t441 = true
     ·subst c243
      have H1 : ((impl_MoveKeyed.f kj124 t435 t440 t439).bind fun bt462 => (if bt462.2 = true then (some (bt462.1.toList == t438.toList)) else (none))) = some r := by rw [if_pos rfl] at H; exact H
      clear H; have H := H1; clear H1
      replace H := Option.bind_eq_some_iff.mp H
      obtain ⟨⟨t462, t463⟩, A2440, H⟩ := H
      replace H : (if t463 = true then (some (t462.toList == t438.toList)) else (none)) = some r := H
      have A244 := aM A2440
      clear A2440
      by_cases c245 : t463 = true
      ·as_aux_lemma =>
        subst c245
        have H1 : (some (t462.toList == t438.toList)) = some r := by rw [if_pos rfl] at H; exact H
        clear H; have H := H1; clear H1
        obtain rfl := Option.some.inj H
        go_wp2_with (first | ((with_reducible refine gate_callee (f := 14) rfl ?_); refine goesL_ (some 483) rfl rfl Tryd.func14 (by kernel_rfl) rfl #[.slice Ao135 t435.length co135, .string t440, .int .i64 t439] rfl (by (try simp only [List.map_toArray, List.map_cons, List.map_nil]); first | done | rfl | (simp only [List.length_drop, List.length_take]; rfl)) ?_; (with_reducible refine (impl_MoveKeyed.calls kj124 _ _ t435 t440 t439 t462 true _ ?side1 ?side2 A244.out).mono ?_); (case side1 => repeat (first | exact (Kd.V_reads' HO_49.out).2.2 | (with_reducible refine cA ?_ _) | (with_reducible refine cN ?_ _) | (with_reducible refine cD ?_))); (case side2 => exact (Kd.V_reads' HO_49.out).2.1); rintro e w246 ⟨rfl, hb⟩; refine ⟨_, rfl, ?_⟩; have n0_ := aM (Kd.V_below (by (with_reducible repeat (first | apply Kd.V_alloc | apply Kd.V_drewN | apply Kd.V_drew)); exact HO_33.out) hb); have n1_ := aM (Kd.R_below (by (with_reducible repeat (first | apply rA | apply rN | apply rD)); exact HO_35.out) hb); have n2_ := aM (Kd.V_below (by (with_reducible repeat (first | apply Kd.V_alloc | apply Kd.V_drewN | apply Kd.V_drew)); exact HO_49.out) hb); have n3_ := aM (below_step (by repeat (first | (with_reducible first | exact HB.out | apply bA | apply bN | apply bD) | exact HB.out)) hb); clear HO_33; clear HO_35; clear HO_49; clear HB; have HO_33 := n0_; have HO_35 := n1_; have HO_49 := n2_; have HB := n3_; clear n0_ n1_ n2_ n3_; (try clear hb); (try clear hb2); (try clear hk); (try clear hi)))
        go_ret
        exact ⟨by first | rfl | (simp [errW_none, errW_some] <;> rfl) | (simp [*, errW_none, errW_some] <;> rfl), by repeat (first | (with_reducible first | exact HB.out | apply bA | apply bN | apply bD) | exact HB.out)⟩
      ·replace c245 := Bool.eq_false_iff.mpr c245
       subst c245
       have H1 : (none) = some r := by rw [if_neg (show ¬ (false = true) by decide)] at H; exact H
       exact absurd H1 (by simp)
     ·as_aux_lemma =>
       replace c243 := Bool.eq_false_iff.mpr c243
       subst c243
       have H1 : (some true) = some r := by rw [if_neg (show ¬ (false = true) by decide)] at H; exact H
       clear H; have H := H1; clear H1
       obtain rfl := Option.some.inj H
       go_wp2
       go_ret
       exact ⟨by first | rfl | (simp [errW_none, errW_some] <;> rfl) | (simp [*, errW_none, errW_some] <;> rfl), by repeat (first | (with_reducible first | exact HB.out | apply bA | apply bN | apply bD) | exact HB.out)⟩

theorem laws_FnKeysLead.calls (k : Nat) (A0 : Option Addr) (c0 : Nat) (l0 : List Int) (A1 : Option Addr) (c1 : Nat) (l1 : List Int) (r : Bool) (w : World) (hr0 : Kd.C (Kd.int .u8) w A0 l0.length l0) (hc0 : l0.length ≤ c0) (hr1 : Kd.C (Kd.int .u8) w A1 l1.length l1) (hc1 : l1.length ≤ c1) (h : laws_FnKeysLead.f k l0 l1 = some r) :
  Calls Tryd.prog 3 #[.slice A0 l0.length c0, .slice A1 l1.length c1] w fun e w' => e = .returned (.bool r) ∧ Below w.heap.size w w' := (laws_FnKeysLead.part1.2 ⟨laws_FnKeysLead.part2.2 ⟨laws_FnKeysLead.part3⟩⟩) k A0 c0 l0 A1 c1 l1 r w hr0 hc0 hr1 hc1 h
theorem laws_FnKeysLead.walk (P : laws_FnKeysLead.Pure) (a0 : Option Addr) (len0 cap0 : Nat) (z0 : List Int) (a1 : Option Addr) (len1 cap1 : Nat) (z1 : List Int) (w : World) (w0 : (a0 = none ∧ len0 = 0 ∧ cap0 = 0 ∧ z0 = []) ∨ ∃ x, a0 = some x ∧ len0 ≤ cap0 ∧ cap0 ≤ maxLen ∧ z0.length = cap0 ∧ (∀ i, i < z0.length → w.cell? (x.add i) = some (.int .u8 (z0.getD i 0))) ∧ ∀ n ∈ z0, (Lit.int .u8 n).wf = true) (y0 : len0 * 1 ≤ 140737488351232) (w1 : (a1 = none ∧ len1 = 0 ∧ cap1 = 0 ∧ z1 = []) ∨ ∃ x, a1 = some x ∧ len1 ≤ cap1 ∧ cap1 ≤ maxLen ∧ z1.length = cap1 ∧ (∀ i, i < z1.length → w.cell? (x.add i) = some (.int .u8 (z1.getD i 0))) ∧ ∀ n ∈ z1, (Lit.int .u8 n).wf = true) (y1 : len1 * 1 ≤ 140737488351232) :
  Calls Tryd.prog 3 #[.slice a0 len0 cap0, .slice a1 len1 cap1] w fun e w' => e = .returned (.bool true) ∧ Below w.heap.size w w' := by
 obtain ⟨l0, rfl, hr0, hm0, hw0, hc0⟩ := ReadsInt.ofRowC w0
 obtain ⟨l1, rfl, hr1, hm1, hw1, hc1⟩ := ReadsInt.ofRowC w1
 obtain ⟨k, h⟩ := P l0 l1 hm0 y0 hw0 hm1 y1 hw1
 refine (laws_FnKeysLead.calls k _ _ l0 _ _ l1 true w (Kd.C_of_reads (d := (0 : Int)) (h1 := fun _ => rfl) hr0) hc0 (Kd.C_of_reads (d := (0 : Int)) (h1 := fun _ => rfl) hr1) hc1 h).mono ?_
 rintro e w' ⟨rfl, hd⟩
 exact ⟨rfl, hd⟩

end Go.Proofs.YtdgpkdgpmidaoaaDoor.PK
