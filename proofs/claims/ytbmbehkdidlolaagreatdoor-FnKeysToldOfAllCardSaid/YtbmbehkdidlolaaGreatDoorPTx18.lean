/-
  The law's walk, part 4.
-/
import Derived.Test.YtbmbehkdidlolaaGreatDoorPTx17
namespace Go.Proofs.YtbmbehkdidlolaaGreatDoor.PT
open Go.RowKit Go.Proofs.YtbmbehkdidlolaaGreatDoorW.PrintWords Go.Proofs.YtbmbehkdidlolaaGreatDoorW.PrintLast Go.Proofs.YtbmbehkdidlolaaGreatDoorW.PrintMore
attribute [local go_sem] max2_int min2_int max_two min_two max_three min_three max_four min_four   -- for this text's walks alone
set_option linter.unusedVariables false
set_option linter.unusedSimpArgs false

set_option maxHeartbeats 40000000 in
set_option maxRecDepth 100000 in
theorem laws_FnKeysToldOfAll.part4 : laws_FnKeysToldOfAll.part3.1 := by
 intro k A0 c0 l0 a1 a2 r w HR0 HC0 _ _ _ _ _ _ _ _ _ _ _ _ _ _ _ _ _ _ _ _ _ _ _ _ _ _ _ _ _ _ _ _ _ _ _ _ _ _ _ _ _ _ _ _ _ _ _ _ _ _ _ _ _ _ _ _ _ _ _ _ _ _ _ _ _ _ _ _ _ _ _ _ _ _ _ _ _ _ _ _ _ _ _ _ _ _ _ _ _ _ _ _ _ _ _ _ _ _ _ _ _ _ _ _ _ _ _ _ _ _ _ _ _ _ _ _ _ _ _ _ _ _ _ _ _ _ _ _ _ _ _ _ _ _ _ _ _ _ _ _ _ _ _ _ _ _ _ _ _ _ _ _ _ _ _ _ _ _ _ _ _ _ _ _ _ _ _ _ _ _ _ _ _ _ _ _ _ _ _ _ _ _ _ _ _ _ _ _ _ _ _ _ _ _ _ _ _ _ _ _ _ _ _ _ _ _ _ _ _ _ _ _ _ _ _ _ _ _ _ _ _ _ _ _ _ _ _ _ _ _ _ _ _ _ _ _ _ _ _ _ _ _ _ _ _ _ _ _ _ _ _ _ _ _ _ _ _ _ _ _ _ _ _ _ _ _ _ _ _ _ _ _ _ _ _ _ _ _ _ _ _ _ _ _ _ _ _ _ _ _ _ _ _ _ _ _ _ _ _ _ _ _ _ _ _ _ _ _ _ _ _ _ _ _ _ _ _ _ _ _ _ _ _ _ _ _ _ _ _ _ _ _ _ _ _ _ _ _ _ _ _ _ _ _ _ _ _ _ _ _ _ _ _ _ _ _ _ _ _ _ _ _ _ _ _ _ _ _ _ _ _ _ _ _ _ _ _ _ _ _ _ _ _ _ _ _ _ _ _ _ _ _ _ _ _ _ _ _ _ _ _ _ _ _ _ _ _ _ _ _ _ _ _ _ _ _ kj3 HJ3 t368 t369 A7 t370 t371 A8 t372 t373 A9 t374 t375 A10 t376 t377 A11 t378 t379 A12 t380 t381 A13 t382 t383 A14 t384 t385 A15 t388 t389 A16 t392 t393 A17 t394 t395 A18 w20 w21 w22 w23 w24 w25 w26 w27 w28 v386 w29 v390 w30 HO387 HO391 _ nd _ _ _ _ _ _ _ _ _ _ _ _ _ _ _ _ _ _ _ _ _ _ _ _ _ _ _ _ _ _ _ _ _ _ _ _ _ _ _ _ _ _ _ _ _ _ _ _ _ _ _ _ _ _ _ _ _ _ _ _ _ _ _ _ _ _ _ _ _ _ _ _ _ _ _ _ _ _ _ _ _ _ _ _ _ _ _ _ _ _ _ _ _ _ _ _ _ _ _ _ _ _ _ _ _ _ _ _ _ _ _ _ _ _ _ _ _ _ _ _ _ _ _ _ _ _ _ _ _ _ _ _ _ _ _ _ _ _ _ _ _ _ _ _ _ _ _ _ _ _ _ _ _ _ _ _ _ _ _ _ _ _ _ _ _ _ _ _ _ _ _ _ _ _ _ _ _ _ _ _ _ _ _ _ _ _ _ _ _ _ _ _ _ _ _ _ _ _ _ _ _ _ _ _ _ _ _ _ _ _ _ _ _ _ _ _ _ _ _ _ _ _ _ _ _ _ _ _ _ _ _ _ _ _ _ _ _ _ _ _ _ _ _ _ _ _ _ _ _ _ _ _ _ _ _ _ _ _ _ _ _ _ _ _ _ _ _ _ _ _ _ _ _ _ _ _ _ _ _ _ _ _ _ _ _ _ _ _ _ _ _ _ _ _ _ _ _ _ _ _ _ _ _ _ _ _ _ _ _ _ _ _ _ _ _ _ _ _ _ _ _ _ _ _ _ _ _ _ _ _ _ _ _ _ _ _ _ _ _ _ _ _ _ _ _ _ _ _ _ _ _ _ _ _ _ _ _ _ _ _ _ _ _ _ _ _ _ _ _ _ _ _ _ _ _ _ _ _ _ _ _ _ _ _ _ _ _ _ _ _ _ _ _ _ _ _ _ _ _ _ _ _ _ _ _ _ _ _ _ _ _ _ _ _ HO_23 _ kj18 HJ18 _ u6 u31 u32 u33 u34 u35 u36 u37 u38 u39 _ _ _ _ _ _ _ _ _ _ _ _ _ _ _ _ _ _ _ _ _ _ _ _ _ _ _ _ _ _ _ _ _ _ _ _ _ _ _ _ _ _ _ _ _ _ _ _ _ _ _ _ _ _ _ _ _ _ _ _ _ _ _ _ _ _ _ _ _ _ _ _ _ _ _ _ _ _ _ _ _ _ _ _ _ _ _ _ _ _ _ _ _ _ _ _ _ _ _ _ _ _ _ _ _ _ _ _ _ _ _ _ _ _ _ _ _ _ _ _ _ _ _ _ _ _ _ _ _ _ _ _ _ _ _ _ _ _ _ _ _ _ _ _ _ _ _ _ _ _ _ _ _ _ _ _ _ _ _ _ _ _ _ _ _ _ _ _ _ _ _ _ _ _ _ _ _ _ _ _ _ _ _ _ _ _ _ _ _ _ _ _ _ _ _ _ _ _ _ _ _ _ _ _ _ _ _ _ _ _ _ _ _ _ _ _ _ _ _ _ _ _ _ _ _ _ _ _ _ _ _ _ _ _ _ _ _ _ _ _ _ _ _ _ _ _ _ _ _ _ _ _ _ _ _ _ _ _ _ _ _ _ _ _ _ _ _ _ _ _ _ _ _ _ _ _ _ _ _ _ _ _ _ _ _ _ _ _ _ _ _ _ _ _ _ _ _ _ _ _ _ _ _ _ _ _ _ _ _ _ _ _ _ _ _ _ _ _ _ _ _ _ _ _ _ _ _ _ _ _ _ _ _ _ _ _ _ _ _ _ _ _ _ _ _ _ _ _ _ _ _ _ _ _ _ _ _ _ _ _ _ _ _ _ _ _ _ _ _ _ _ _ _ _ _ _ _ _ _ _ _ _ _ _ _ _ _ _ _ _ _ _ _ _ _ _ _ _ _ _ _ _ _ _ _ _ _ _ _ _ _ _ _ _ kj74 HJ74 t412 t413 A227 t416 t417 A228 t420 t421 A229 t424 t425 A230 t428 t429 A231 t432 t433 A232 w234 v414 w235 v418 w236 v422 w237 v426 w238 v430 w239 v434 HO415 HO419 HO423 HO427 HO431 HO435 _ _ _ _ _ _ _ _ _ _ _ _ _ _ _ _ _ _ _ _ _ _ _ _ _ _ _ _ _ _ _ _ _ _ _ _ _ _ _ _ _ _ _ _ _ _ _ _ _ _ _ _ _ _ _ _ _ _ _ _ _ _ _ _ _ _ _ _ _ _ _ _ _ _ _ _ _ _ _ _ _ _ _ _ _ _ _ _ _ _ _ _ _ _ _ _ _ _ _ _ _ _ _ _ _ _ _ _ _ _ _ _ _ _ _ _ _ _ _ _ _ _ _ _ _ _ _ _ _ _ _ _ _ _ _ _ _ _ _ _ _ _ _ _ _ _ _ _ _ _ _ _ _ _ _ _ _ _ _ _ _ _ _ _ _ _ _ _ _ _ _ _ _ _ _ _ _ _ _ _ _ _ _ _ _ _ _ _ _ _ _ _ _ _ _ _ _ _ _ _ _ _ _ _ _ _ _ _ _ _ _ _ _ _ _ _ _ _ _ _ _ _ _ _ _ _ _ _ _ _ _ _ _ _ _ _ _ _ _ _ _ _ _ _ _ _ _ _ _ _ _ _ _ _ _ _ _ _ _ _ _ _ _ _ _ _ _ _ _ _ _ _ _ _ _ _ _ _ _ _ _ _ _ _ _ _ _ _ _ _ _ _ _ _ _ _ _ _ _ _ _ _ _ _ _ _ _ _ _ _ _ _ _ _ _ _ _ _ _ _ _ _ _ _ _ _ _ _ _ _ _ _ _ _ _ _ _ _ _ _ _ _ _ _ _ _ _ _ _ _ _ _ _ _ _ _ _ _ _ _ _ _ _ _ _ _ _ _ _ _ _ _ _ _ _ _ _ _ _ _ _ _ _ _ _ _ _ _ _ _ _ _ _ _ _ _ _ _ _ _ _ _ _ _ _ _ _ _ _ _ _ _ _ _ _ HO_40 HO_44 HO_48 HB kj232 HJ232 HC272 _ _ _ _ wc u65 u66 u67 u68 u69 u70 u71 u72 u73 u74 u75 u76 u77 u78 u79 u80 u81 u82 u83 u84 u85 u86 u87 u88 u89 u90 u91 u92 u93 u94 u95 u96 u97 u98 u99 u100 u101 u102 u103 u104 u105 u106 u107 u108 u109 u110 u111 u112 u113 u114 u115 u116 u117 u118 u119 u120 u121 u122 u123 u124 u125 u126 u127 u128 u129 u130 u131 u132 u133 u134 u135 u136 u137 u138 u139 u140 u141 u142 u143 u144 u145 u146 u147 u148 u149 u150 u151 u152 u153 u154 u155 u156 u157 u158 u159 u160 u161 u162 u163 u164 u165 u166 u167 u168 u169 u170 u171 u172 u173 u174 u175 u176 u177 u178 u179 u180 u181 u182 u183 u184 u185 u186 u187 u188 u189 u190 u191 u192 u193 u194 u195 u196 u197 u198 u199 u200 u201 u202 u203 u204 u205 u206 u207 u208 u209 u210 u211 u212 u213 u214 u215 u216 u217 u218 u219 u220 u221 u222 u223 u224 u225 u226 u227 u228 u229 u230 u231 u232 u233 u234 u235 u236 u237 u238 u239 u240 u241 u242 u243 u244 u245 u246 u247 u248 u249 u250 u251 u252 u253 u254 u255 u256 u257 u258 u259 u260 u261 u262 u263 u264 u265 u266 u267 u268 u269 u270 u271 u272 u273 u274 u275 u276 u277 u278 u279 u280 u281 u282 u283 u284 u285 u286 u287 u288 u289 u290 u291 u292 u293 u294 u295 u296 u297 u298 u299 u300 u301 u302 u303 u304 u305 u306 u307 u308 u309 u310 u311 u312 u313 u314 u315 u316 u317 u318 u319 u320 u321 u322 u323 u324 u325 u326 u327 u328 u329 u330 u331 u332 u333 u334 u335 u336 u337 u338 u339 u340 u341 u342 u343 u344 u345 u346 u347 u348 u349 u350 u351 u352 u353 u354 u355 u356 u357 u358 u359 u360 u361 u362 u363 u364 u365 u366 u367 u368 u369 u370 u371 u372 u373 u374 u375 u376 u377 u378 u379 u380 u381 u382 u383 u384 u385 u386 u387 u388 u389 u390 u391 u392 u393 u394 u395 u396 u397 u398 u399 u400 u401 u402 u403 u404 u405 u406 u407 u408 u409 u410 u411 u412 u413 u414 u415 u416 u417 u418 u419 u420 u421 u422 u423 u424 u425 u426 u427 u428 u429 u430 u431 u432 u433 u434 u435 u436 u437 u438 u439 u440 u441 u442 u443 u444 u445 u446 u447 u448 u449 u450 u451 u452 u453 u454 u455 u456 u457 u458 u459 u460 u461 u462 u463 u464 u465 u466 u467 u468 u469 u470 u471 u472 u473 u474 u475 u476 u477 u478 hcut
 clear HC272
 try clear c1
 try clear c2
 try clear p2
 try clear c3
 try clear c4
 try clear c5
 try clear c5b0
 try clear c5b1
 try clear c6
 try clear p6
 try clear c7
 try clear c8
 try clear c9
 try clear c10
 try clear c11
 try clear c12
 try clear c13
 try clear c14
 try clear c15
 try clear c16
 try clear c19
 try clear c20
 try clear c21
 try clear c22
 try clear c23
 try clear c24
 try clear c25
 try clear c27
 try clear c31
 try clear c31b0
 try clear c31b1
 try clear c31b2
 try clear c32
 try clear c32b0
 try clear c32b1
 try clear c33
 try clear c33b0
 try clear c33b1
 try clear c33b2
 try clear c34
 try clear c34b0
 try clear c34b1
 try clear c35
 try clear c35b0
 try clear c35b1
 try clear c35b2
 try clear c36
 try clear c36b0
 try clear c36b1
 try clear c37
 try clear c37b0
 try clear c37b1
 try clear c37b2
 try clear c38
 try clear c38b0
 try clear c38b1
 try clear c38b2
 try clear c39
 try clear c39b0
 try clear c39b1
 try clear c39b2
 try clear c41
 try clear c42
 try clear c42b0
 try clear c42b1
 try clear c42b2
 try clear c45
 try clear c45b0
 try clear c45b1
 try clear c47
 try clear c47b0
 try clear c47b1
 try clear c47b2
 try clear c51
 try clear c51b0
 try clear c51b1
 try clear c51b2
 try clear c55
 try clear c55b0
 try clear c55b1
 try clear c55b2
 try clear c59
 try clear c59b0
 try clear c59b1
 try clear c59b2
 try clear c63
 try clear c63b0
 try clear c63b1
 try clear c63b2
 try clear p64
 try clear c74
 try clear c76
 try clear c82
 try clear c84
 try clear c85
 try clear c86
 try clear c86b0
 try clear c86b1
 try clear c87
 try clear c88
 try clear c88b0
 try clear c88b1
 try clear c89
 try clear c91
 try clear c92
 try clear c92b0
 try clear c100
 try clear c100b0
 try clear c108
 try clear c108b0
 try clear c116
 try clear c116b0
 try clear c124
 try clear c125
 try clear c125b0
 try clear c125b1
 try clear c126
 try clear c126b0
 try clear c126b1
 try clear c127
 try clear c127b0
 try clear c127b1
 try clear c128
 try clear c128b0
 try clear c164
 try clear c164b0
 try clear c240
 try clear c240b0
 try clear c240b1
 try clear c240b2
 try clear c242
 try clear c243
 try clear c243b0
 try clear c243b1
 try clear c243b2
 try clear c247
 try clear c248
 try clear c248b0
 try clear c248b1
 try clear c248b2
 try clear c253
 try clear c253b0
 try clear c253b1
 try clear c253b2
 try clear c271
 try clear c273
 try clear p2
 try clear p6
 try clear p64
 obtain ⟨kq, x402_271, rfl, HA, HJ271, HO_40, HO_44, HO_48, HB⟩ := hcut
 cases kq with
 | zero => exact absurd HA.out (by simp [laws_FnKeysToldOfAll.j4])
 | succ kj271 =>
  have H := HA.out
  clear HA
  simp only [laws_FnKeysToldOfAll.j4] at H
  by_cases c274 : x402_271 = true
  ·as_aux_lemma =>
    subst c274
    have H1 : ((impl_IsLineOfStates.f kj271 t412).bind fun bt439 => ((impl_LongestByKeys.f kj271 t420).bind fun bt441 => (if bt439.2 = true then (if bt439.1 = true then (if bt441.2 = true then (laws_FnKeysToldOfAll.j5 kj271 a1 a2 t412 t428 t429 (bt441.1 != a1)) else (none)) else (none)) else (none)))) = some r := by rw [if_pos rfl] at H; exact H
    clear H; have H := H1; clear H1
    replace H := Option.bind_eq_some_iff.mp H
    obtain ⟨⟨t439, t440⟩, A2750, H⟩ := H
    replace H : ((impl_LongestByKeys.f kj271 t420).bind fun bt441 => (if t440 = true then (if t439 = true then (if bt441.2 = true then (laws_FnKeysToldOfAll.j5 kj271 a1 a2 t412 t428 t429 (bt441.1 != a1)) else (none)) else (none)) else (none))) = some r := H
    have A275 := aM A2750
    clear A2750
    replace H := Option.bind_eq_some_iff.mp H
    obtain ⟨⟨t441, t442⟩, A2760, H⟩ := H
    replace H : (if t440 = true then (if t439 = true then (if t442 = true then (laws_FnKeysToldOfAll.j5 kj271 a1 a2 t412 t428 t429 (t441 != a1)) else (none)) else (none)) else (none)) = some r := H
    have A276 := aM A2760
    clear A2760
    have HC277 := aM H
    clear H
    obtain ⟨Ao278, co278, eo278⟩ := Kd.R_slice HO_40.out
    subst eo278
    go_upto_region 36 with (first | ((with_reducible refine gate_callee (f := 11) rfl ?_); refine goesL_ (some 405) rfl rfl Tryz.func11 (by kernel_rfl) rfl #[.slice Ao278 t412.length co278] rfl (by (try simp only [List.map_toArray, List.map_cons, List.map_nil]); first | done | rfl | (simp only [List.length_drop, List.length_take]; rfl)) ?_; (with_reducible refine (impl_IsLineOfStates.calls kj271 _ _ t412 t439 t440 _ ?side1 ?side2 A275.out).mono ?_); (case side1 => repeat (first | exact (Kd.R_reads' HO_40.out).2.2 | (with_reducible refine cA ?_ _) | (with_reducible refine cN ?_ _) | (with_reducible refine cD ?_))); (case side2 => exact (Kd.R_reads' HO_40.out).2.1); rintro e w279 ⟨rfl, hb⟩; refine ⟨_, rfl, ?_⟩; have n0_ := aM (Kd.R_below (by (with_reducible repeat (first | apply rA | apply rN | apply rD)); exact HO_40.out) hb); have n1_ := aM (Kd.R_below (by (with_reducible repeat (first | apply rA | apply rN | apply rD)); exact HO_44.out) hb); have n2_ := aM (Kd.R_below (by (with_reducible repeat (first | apply rA | apply rN | apply rD)); exact HO_48.out) hb); have n3_ := aM (below_step (by repeat (first | (with_reducible first | exact HB.out | apply bA | apply bN | apply bD) | exact HB.out)) hb); clear HO_40; clear HO_44; clear HO_48; clear HB; have HO_40 := n0_; have HO_44 := n1_; have HO_48 := n2_; have HB := n3_; clear n0_ n1_ n2_ n3_; (try clear hb); (try clear hb2); (try clear hk); (try clear hi); obtain ⟨Ao280, co280, eo280⟩ := Kd.R_slice HO_44.out; subst eo280) | ((with_reducible refine gate_callee (f := 5) rfl ?_); refine goesL_ (some 410) rfl rfl Tryz.func5 (by kernel_rfl) rfl #[.slice Ao280 t420.length co280] rfl (by (try simp only [List.map_toArray, List.map_cons, List.map_nil]); first | done | rfl | (simp only [List.length_drop, List.length_take]; rfl)) ?_; (with_reducible refine (impl_LongestByKeys.calls kj271 _ _ t420 t441 t442 _ ?side1 ?side2 A276.out).mono ?_); (case side1 => repeat (first | exact (Kd.R_reads' HO_44.out).2.2 | (with_reducible refine cA ?_ _) | (with_reducible refine cN ?_ _) | (with_reducible refine cD ?_))); (case side2 => exact (Kd.R_reads' HO_44.out).2.1); rintro e w281 ⟨rfl, hb⟩; refine ⟨_, rfl, ?_⟩; have n0_ := aM (Kd.R_below (by (with_reducible repeat (first | apply rA | apply rN | apply rD)); exact HO_40.out) hb); have n1_ := aM (Kd.R_below (by (with_reducible repeat (first | apply rA | apply rN | apply rD)); exact HO_44.out) hb); have n2_ := aM (Kd.R_below (by (with_reducible repeat (first | apply rA | apply rN | apply rD)); exact HO_48.out) hb); have n3_ := aM (below_step (by repeat (first | (with_reducible first | exact HB.out | apply bA | apply bN | apply bD) | exact HB.out)) hb); clear HO_40; clear HO_44; clear HO_48; clear HB; have HO_40 := n0_; have HO_44 := n1_; have HO_48 := n2_; have HB := n3_; clear n0_ n1_ n2_ n3_; (try clear hb); (try clear hb2); (try clear hk); (try clear hi)))
    (try simp only [Act.put, sA, sB, sC])
    go_cut [427] (fun v427 wc => ∃ (kq : Nat) (x427_276 : Bool), v427 = .bool x427_276 ∧ Aside0 (laws_FnKeysToldOfAll.j5 kq a1 a2 t412 t428 t429 x427_276 = some r) ∧ Aside0 (kq ≤ kj271) ∧ Aside0 (Kd.R Kd.string 9 wc w.heap.size (fun k_ => some k_ ≠ (v430 : Value).ownBlock) (.slice Ao278 t412.length co278) t412) ∧ Aside0 (Kd.R Kd.string 9 wc w.heap.size (fun k_ => some k_ ≠ ((.slice Ao278 t412.length co278) : Value).ownBlock) v430 t428) ∧ Aside0 (Below w.heap.size w wc))
    case first =>
     as_aux_lemma =>
      have H := HC277.out
      clear HC277
      by_cases c282 : t440 = true
      ·subst c282
       have H1 : (if t439 = true then (if t442 = true then (laws_FnKeysToldOfAll.j5 kj271 a1 a2 t412 t428 t429 (t441 != a1)) else (none)) else (none)) = some r := by rw [if_pos rfl] at H; exact H
       clear H; have H := H1; clear H1
       by_cases c283 : t439 = true
       ·subst c283
        have H1 : (if t442 = true then (laws_FnKeysToldOfAll.j5 kj271 a1 a2 t412 t428 t429 (t441 != a1)) else (none)) = some r := by rw [if_pos rfl] at H; exact H
        clear H; have H := H1; clear H1
        by_cases c284 : t442 = true
        ·as_aux_lemma =>
          subst c284
          have H1 : (laws_FnKeysToldOfAll.j5 kj271 a1 a2 t412 t428 t429 (t441 != a1)) = some r := by rw [if_pos rfl] at H; exact H
          clear H; have H := H1; clear H1
          have H' := aM H
          clear H
          go_wp2
          go_meet
          case rel => exact ⟨_, ((t441 != a1)), (by first | rfl | (simp; done) | (simp [*]; done)), H', ⟨by have := HJ3.out; have := HJ18.out; have := HJ74.out; have := HJ232.out; have := HJ271.out; first | omega | exact Nat.le_refl _⟩, ⟨by (with_reducible repeat (first | apply rA | apply rN | apply rD)); exact Kd.R_mono HO_40.out (fun _ hk => hk.2)⟩, ⟨by (with_reducible repeat (first | apply rA | apply rN | apply rD)); exact Kd.R_mono HO_48.out (fun _ hk => hk.1)⟩, ⟨by repeat (first | (with_reducible first | exact HB.out | apply bA | apply bN | apply bD) | exact HB.out)⟩⟩
        ·replace c284 := Bool.eq_false_iff.mpr c284
         subst c284
         have H1 : (none) = some r := by rw [if_neg (show ¬ (false = true) by decide)] at H; exact H
         exact absurd H1 (by simp)
       ·replace c283 := Bool.eq_false_iff.mpr c283
        subst c283
        have H1 : (none) = some r := by rw [if_neg (show ¬ (false = true) by decide)] at H; exact H
        exact absurd H1 (by simp)
      ·replace c282 := Bool.eq_false_iff.mpr c282
       subst c282
       have H1 : (none) = some r := by rw [if_neg (show ¬ (false = true) by decide)] at H; exact H
       exact absurd H1 (by simp)
    case rest =>
     as_aux_lemma =>
      clear HC277
      try clear c1
      try clear c2
      try clear p2
      try clear c3
      try clear c4
      try clear c5
      try clear c5b0
      try clear c5b1
      try clear c6
      try clear p6
      try clear c7
      try clear c8
      try clear c9
      try clear c10
      try clear c11
      try clear c12
      try clear c13
      try clear c14
      try clear c15
      try clear c16
      try clear c19
      try clear c20
      try clear c21
      try clear c22
      try clear c23
      try clear c24
      try clear c25
      try clear c27
      try clear c28
      try clear c31
      try clear c31b0
      try clear c31b1
      try clear c31b2
      try clear c32
      try clear c32b0
      try clear c32b1
      try clear c33
      try clear c33b0
      try clear c33b1
      try clear c33b2
      try clear c34
      try clear c34b0
      try clear c34b1
      try clear c35
      try clear c35b0
      try clear c35b1
      try clear c35b2
      try clear c36
      try clear c36b0
      try clear c36b1
      try clear c37
      try clear c37b0
      try clear c37b1
      try clear c37b2
      try clear c38
      try clear c38b0
      try clear c38b1
      try clear c38b2
      try clear c39
      try clear c39b0
      try clear c39b1
      try clear c39b2
      try clear c41
      try clear c42
      try clear c42b0
      try clear c42b1
      try clear c42b2
      try clear c45
      try clear c45b0
      try clear c45b1
      try clear c47
      try clear c47b0
      try clear c47b1
      try clear c47b2
      try clear c51
      try clear c51b0
      try clear c51b1
      try clear c51b2
      try clear c55
      try clear c55b0
      try clear c55b1
      try clear c55b2
      try clear c59
      try clear c59b0
      try clear c59b1
      try clear c59b2
      try clear c63
      try clear c63b0
      try clear c63b1
      try clear c63b2
      try clear p64
      try clear c74
      try clear c76
      try clear c82
      try clear c84
      try clear c85
      try clear c86
      try clear c86b0
      try clear c86b1
      try clear c87
      try clear c88
      try clear c88b0
      try clear c88b1
      try clear c89
      try clear c91
      try clear c92
      try clear c92b0
      try clear c100
      try clear c100b0
      try clear c108
      try clear c108b0
      try clear c116
      try clear c116b0
      try clear c124
      try clear c125
      try clear c125b0
      try clear c125b1
      try clear c126
      try clear c126b0
      try clear c126b1
      try clear c127
      try clear c127b0
      try clear c127b1
      try clear c128
      try clear c128b0
      try clear c164
      try clear c164b0
      try clear c240
      try clear c240b0
      try clear c240b1
      try clear c240b2
      try clear c242
      try clear c243
      try clear c243b0
      try clear c243b1
      try clear c243b2
      try clear c247
      try clear c248
      try clear c248b0
      try clear c248b1
      try clear c248b2
      try clear c253
      try clear c253b0
      try clear c253b1
      try clear c253b2
      try clear c271
      try clear c273
      try clear c274
      try clear c282
      try clear c283
      try clear c284
      try clear p2
      try clear p6
      try clear p64
      obtain ⟨kq, x427_276, rfl, HA, HJ276, HO_40, HO_48, HB⟩ := hcut
      cases kq with
      | zero => exact absurd HA.out (by simp [laws_FnKeysToldOfAll.j5])
      | succ kj276 =>
       have H := HA.out
       clear HA
       simp only [laws_FnKeysToldOfAll.j5] at H
       by_cases c285 : x427_276 = true
       ·subst c285
        have H1 : (none) = some r := by rw [if_pos rfl] at H; exact H
        exact absurd H1 (by simp)
       ·as_aux_lemma =>
         replace c285 := Bool.eq_false_iff.mpr c285
         subst c285
         have H1 : (laws_FnKeysToldOfAll.l0 kj276 a1 a2 t412 t428 t429 0) = some r := by rw [if_neg (show ¬ (false = true) by decide)] at H; exact H
         clear H; have H := H1; clear H1
         have H' := aM H
         clear H
         go_wp2
         go_loopg [56] kj276 (fun kq v56 w' => ∃ (x56_7 : Int), v56 = .int .i64 x56_7 ∧ Aside0 (laws_FnKeysToldOfAll.l0 kq a1 a2 t412 t428 t429 x56_7 = some r) ∧ Aside0 (kq ≤ kj276) ∧ Aside0 (Kd.R Kd.string 9 w' w.heap.size (fun k_ => some k_ ≠ (v430 : Value).ownBlock) (.slice Ao278 t412.length co278) t412) ∧ Aside0 (Kd.R Kd.string 9 w' w.heap.size (fun k_ => some k_ ≠ ((.slice Ao278 t412.length co278) : Value).ownBlock) v430 t428) ∧ Aside0 (Below w.heap.size w w'))
         case atStart => exact ⟨(0), (by first | rfl | (simp; done) | (simp [*]; done)), H', ⟨Nat.le_refl _⟩, ⟨by (with_reducible repeat (first | apply rA | apply rN | apply rD)); exact HO_40.out⟩, ⟨by (with_reducible repeat (first | apply rA | apply rN | apply rD)); exact HO_48.out⟩, ⟨by repeat (first | (with_reducible first | exact HB.out | apply bA | apply bN | apply bD) | exact HB.out)⟩⟩
         case round =>
          as_aux_lemma =>
           clear H'
           try clear c1
           try clear c2
           try clear p2
           try clear c3
           try clear c4
           try clear c5
           try clear c5b0
           try clear c5b1
           try clear c6
           try clear p6
           try clear c7
           try clear c8
           try clear c9
           try clear c10
           try clear c11
           try clear c12
           try clear c13
           try clear c14
           try clear c15
           try clear c16
           try clear c19
           try clear c20
           try clear c21
           try clear c22
           try clear c23
           try clear c24
           try clear c25
           try clear c27
           try clear c28
           try clear c31
           try clear c31b0
           try clear c31b1
           try clear c31b2
           try clear c32
           try clear c32b0
           try clear c32b1
           try clear c33
           try clear c33b0
           try clear c33b1
           try clear c33b2
           try clear c34
           try clear c34b0
           try clear c34b1
           try clear c35
           try clear c35b0
           try clear c35b1
           try clear c35b2
           try clear c36
           try clear c36b0
           try clear c36b1
           try clear c37
           try clear c37b0
           try clear c37b1
           try clear c37b2
           try clear c38
           try clear c38b0
           try clear c38b1
           try clear c38b2
           try clear c39
           try clear c39b0
           try clear c39b1
           try clear c39b2
           try clear c41
           try clear c42
           try clear c42b0
           try clear c42b1
           try clear c42b2
           try clear c45
           try clear c45b0
           try clear c45b1
           try clear c47
           try clear c47b0
           try clear c47b1
           try clear c47b2
           try clear c51
           try clear c51b0
           try clear c51b1
           try clear c51b2
           try clear c55
           try clear c55b0
           try clear c55b1
           try clear c55b2
           try clear c59
           try clear c59b0
           try clear c59b1
           try clear c59b2
           try clear c63
           try clear c63b0
           try clear c63b1
           try clear c63b2
           try clear p64
           try clear c74
           try clear c76
           try clear c82
           try clear c84
           try clear c85
           try clear c86
           try clear c86b0
           try clear c86b1
           try clear c87
           try clear c88
           try clear c88b0
           try clear c88b1
           try clear c89
           try clear c91
           try clear c92
           try clear c92b0
           try clear c100
           try clear c100b0
           try clear c108
           try clear c108b0
           try clear c116
           try clear c116b0
           try clear c124
           try clear c125
           try clear c125b0
           try clear c125b1
           try clear c126
           try clear c126b0
           try clear c126b1
           try clear c127
           try clear c127b0
           try clear c127b1
           try clear c128
           try clear c128b0
           try clear c164
           try clear c164b0
           try clear c240
           try clear c240b0
           try clear c240b1
           try clear c240b2
           try clear c242
           try clear c243
           try clear c243b0
           try clear c243b1
           try clear c243b2
           try clear c247
           try clear c248
           try clear c248b0
           try clear c248b1
           try clear c248b2
           try clear c253
           try clear c253b0
           try clear c253b1
           try clear c253b2
           try clear c271
           try clear c273
           try clear c274
           try clear c282
           try clear c283
           try clear c284
           try clear c285
           try clear p2
           try clear p6
           try clear p64
           obtain ⟨x56_7, rfl, HA, HK7, HO_40, HO_48, HB⟩ := hrel
           cases gk with
           | zero => exact absurd HA.out (by simp [laws_FnKeysToldOfAll.l0])
           | succ k7 =>
            have H := HA.out
            clear HA
            simp only [laws_FnKeysToldOfAll.l0] at H
            by_cases c286 : 0 ≤ a1
            ·as_aux_lemma =>
              rw [if_pos c286] at H
              have c286b0 := eq_true c286
              have c286b1 : decide (0 ≤ a1) = true := decide_eq_true c286
              clear c286
              obtain ⟨ji287, hji287⟩ : ∃ j_ : Int, (shl .i64 1 a1) = j_ := ⟨_, rfl⟩
              replace H : (if x56_7 < (ji287) then ((impl_StateOfNumber.f k7 a1 x56_7).bind fun bt445 => ((impl_MovesOf.f k7 bt445.1).bind fun bt447 => ((impl_KeyedMoves.f k7 t412 bt445.1).bind fun bt451 => (if bt445.2 = true then (if bt447.2 = true then (if bt451.2 = true then ((laws_ySame.f k7 bt447.1 bt451.1).bind fun t455 => (if t455 = true then (laws_FnKeysToldOfAll.l0 k7 a1 a2 t412 t428 t429 (wrap64 (x56_7 + 1))) else (none))) else (none)) else (none)) else (none))))) else (if t429 = true then ((impl_KeysText.f k7 t428).bind fun bt443 => (if bt443.2 = true then (some (bt443.1.toList == a2.toList)) else (none))) else (some true))) = some r := by first | (rw [hji287] at H; exact H) | (simp only [hji287] at H ⊢; exact H)
              have hji287_ : (IntKind.i64.wrap (1 * 2 ^ min a1.toNat 64)) = ji287 := hji287
              have hji287z : a1 ≤ 64 → (IntKind.i64.wrap (1 * 2 ^ a1.toNat)) = ji287 := shl_small hji287
              have hji287u : (IntKind.i64.wrap (2 ^ min a1.toNat 64)) = ji287 := by have h_ := hji287_; rw [Int.one_mul] at h_; exact h_
              have hji287v : a1 ≤ 64 → (IntKind.i64.wrap (2 ^ a1.toNat)) = ji287 := fun hle_ => by have h_ := hji287z hle_; rw [Int.one_mul] at h_; exact h_
              have hji287y : (wrap64 (1 * 2 ^ min a1.toNat 64)) = ji287 := (i64_w _).symm.trans hji287_
              have hji287x : a1 ≤ 64 → (wrap64 (1 * 2 ^ a1.toNat)) = ji287 := fun h_ => (i64_w _).symm.trans (hji287z h_)
              by_cases c288 : x56_7 < (ji287)
              ·as_aux_lemma =>
                rw [if_pos c288] at H
                have c288b0 : decide (x56_7 < (ji287)) = true := decide_eq_true c288
                clear c288
                replace H := Option.bind_eq_some_iff.mp H
                obtain ⟨⟨t445, t446⟩, A2890, H⟩ := H
                replace H : ((impl_MovesOf.f k7 t445).bind fun bt447 => ((impl_KeyedMoves.f k7 t412 t445).bind fun bt451 => (if t446 = true then (if bt447.2 = true then (if bt451.2 = true then ((laws_ySame.f k7 bt447.1 bt451.1).bind fun t455 => (if t455 = true then (laws_FnKeysToldOfAll.l0 k7 a1 a2 t412 t428 t429 (wrap64 (x56_7 + 1))) else (none))) else (none)) else (none)) else (none)))) = some r := H
                have A289 := aM A2890
                clear A2890
                replace H := Option.bind_eq_some_iff.mp H
                obtain ⟨⟨t447, t448⟩, A2900, H⟩ := H
                replace H : ((impl_KeyedMoves.f k7 t412 t445).bind fun bt451 => (if t446 = true then (if t448 = true then (if bt451.2 = true then ((laws_ySame.f k7 t447 bt451.1).bind fun t455 => (if t455 = true then (laws_FnKeysToldOfAll.l0 k7 a1 a2 t412 t428 t429 (wrap64 (x56_7 + 1))) else (none))) else (none)) else (none)) else (none))) = some r := H
                have A290 := aM A2900
                clear A2900
                replace H := Option.bind_eq_some_iff.mp H
                obtain ⟨⟨t451, t452⟩, A2910, H⟩ := H
                replace H : (if t446 = true then (if t448 = true then (if t452 = true then ((laws_ySame.f k7 t447 t451).bind fun t455 => (if t455 = true then (laws_FnKeysToldOfAll.l0 k7 a1 a2 t412 t428 t429 (wrap64 (x56_7 + 1))) else (none))) else (none)) else (none)) else (none)) = some r := H
                have A291 := aM A2910
                clear A2910
                by_cases c292 : t446 = true
                ·subst c292
                 have H1 : (if t448 = true then (if t452 = true then ((laws_ySame.f k7 t447 t451).bind fun t455 => (if t455 = true then (laws_FnKeysToldOfAll.l0 k7 a1 a2 t412 t428 t429 (wrap64 (x56_7 + 1))) else (none))) else (none)) else (none)) = some r := by rw [if_pos rfl] at H; exact H
                 clear H; have H := H1; clear H1
                 by_cases c293 : t448 = true
                 ·subst c293
                  have H1 : (if t452 = true then ((laws_ySame.f k7 t447 t451).bind fun t455 => (if t455 = true then (laws_FnKeysToldOfAll.l0 k7 a1 a2 t412 t428 t429 (wrap64 (x56_7 + 1))) else (none))) else (none)) = some r := by rw [if_pos rfl] at H; exact H
                  clear H; have H := H1; clear H1
                  by_cases c294 : t452 = true
                  ·subst c294
                   have H1 : ((laws_ySame.f k7 t447 t451).bind fun t455 => (if t455 = true then (laws_FnKeysToldOfAll.l0 k7 a1 a2 t412 t428 t429 (wrap64 (x56_7 + 1))) else (none))) = some r := by rw [if_pos rfl] at H; exact H
                   clear H; have H := H1; clear H1
                   replace H := Option.bind_eq_some_iff.mp H
                   obtain ⟨t455, A2950, H⟩ := H
                   replace H : (if t455 = true then (laws_FnKeysToldOfAll.l0 k7 a1 a2 t412 t428 t429 (wrap64 (x56_7 + 1))) else (none)) = some r := H
                   have A295 := aM A2950
                   clear A2950
                   by_cases c296 : t455 = true
                   ·as_aux_lemma =>
                     subst c296
                     have H1 : (laws_FnKeysToldOfAll.l0 k7 a1 a2 t412 t428 t429 (wrap64 (x56_7 + 1))) = some r := by rw [if_pos rfl] at H; exact H
                     clear H; have H := H1; clear H1
                     have H' := aM H
                     clear H
                     go_wp2_with (first | ((with_reducible refine gate_callee (f := 25) rfl ?_); refine goesL_ (some 437) rfl rfl Tryz.func25 (by kernel_rfl) rfl #[.int .i64 a1, .int .i64 x56_7] rfl (by (try simp only [List.map_toArray, List.map_cons, List.map_nil]); first | done | rfl | (simp only [List.length_drop, List.length_take]; rfl)) ?_; (with_reducible refine (impl_StateOfNumber.calls k7 a1 x56_7 t445 true _ A289.out).mono ?_); rintro e w297 ⟨rfl, hb⟩; refine ⟨_, rfl, ?_⟩; have n0_ := aM (Kd.R_below (by (with_reducible repeat (first | apply rA | apply rN | apply rD)); exact HO_40.out) hb); have n1_ := aM (Kd.R_below (by (with_reducible repeat (first | apply rA | apply rN | apply rD)); exact HO_48.out) hb); have n2_ := aM (below_step (by repeat (first | (with_reducible first | exact HB.out | apply bA | apply bN | apply bD) | exact HB.out)) hb); clear HO_40; clear HO_48; clear HB; have HO_40 := n0_; have HO_48 := n1_; have HB := n2_; clear n0_ n1_ n2_; (try clear hb); (try clear hb2); (try clear hk); (try clear hi)) | ((with_reducible refine gate_callee (f := 26) rfl ?_); refine goesL_ (some 442) rfl rfl Tryz.func26 (by kernel_rfl) rfl #[.string t445] rfl (by (try simp only [List.map_toArray, List.map_cons, List.map_nil]); first | done | rfl | (simp only [List.length_drop, List.length_take]; rfl)) ?_; (with_reducible refine (impl_MovesOf.calls k7 t445 t447 true _ A290.out).mono ?_); rintro e w298 ⟨v449, rfl, ho0, hb⟩; refine ⟨_, rfl, ?_⟩; have n0_ := aM (Kd.R_below (by (with_reducible repeat (first | apply rA | apply rN | apply rD)); exact HO_40.out) hb); have n1_ := aM (Kd.R_below (by (with_reducible repeat (first | apply rA | apply rN | apply rD)); exact HO_48.out) hb); have n2_ := aM (Kd.R_lower ho0 (below_size (by repeat (first | (with_reducible first | exact HB.out | apply bA | apply bN | apply bD) | exact HB.out)))); have n3_ := aM (below_step (by repeat (first | (with_reducible first | exact HB.out | apply bA | apply bN | apply bD) | exact HB.out)) hb); clear HO_40; clear HO_48; clear HB; have HO_40 := n0_; have HO_48 := n1_; have HO450 := n2_; have HB := n3_; clear n0_ n1_ n2_ n3_; (try clear hb); (try clear hb2); (try clear hk); (try clear hi); (try clear ho0)) | ((with_reducible refine gate_callee (f := 27) rfl ?_); refine goesL_ (some 448) rfl rfl Tryz.func27 (by kernel_rfl) rfl #[.slice Ao278 t412.length co278, .string t445] rfl (by (try simp only [List.map_toArray, List.map_cons, List.map_nil]); first | done | rfl | (simp only [List.length_drop, List.length_take]; rfl)) ?_; (with_reducible refine (impl_KeyedMoves.calls k7 _ _ t412 t445 t451 true _ ?side1 ?side2 A291.out).mono ?_); (case side1 => repeat (first | exact (Kd.R_reads' HO_40.out).2.2 | (with_reducible refine cA ?_ _) | (with_reducible refine cN ?_ _) | (with_reducible refine cD ?_))); (case side2 => exact (Kd.R_reads' HO_40.out).2.1); rintro e w299 ⟨v453, rfl, ho0, hb⟩; refine ⟨_, rfl, ?_⟩; have n0_ := aM (Kd.R_below (by (with_reducible repeat (first | apply rA | apply rN | apply rD)); exact HO_40.out) hb); have n1_ := aM (Kd.R_below (by (with_reducible repeat (first | apply rA | apply rN | apply rD)); exact HO_48.out) hb); have n2_ := aM (Kd.R_elder' (by (with_reducible repeat (first | apply rA | apply rN | apply rD)); exact HO450.out) (Kd.R_base ho0) hb); have n3_ := aM (Kd.R_lower (Kd.R_new' ho0 (Kd.R_lt (by (with_reducible repeat (first | apply rA | apply rN | apply rD)); exact HO450.out))) (below_size (by repeat (first | (with_reducible first | exact HB.out | apply bA | apply bN | apply bD) | exact HB.out)))); have n4_ := aM (below_step (by repeat (first | (with_reducible first | exact HB.out | apply bA | apply bN | apply bD) | exact HB.out)) hb); clear HO_40; clear HO_48; clear HO450; clear HB; have HO_40 := n0_; have HO_48 := n1_; have HO450 := n2_; have HO454 := n3_; have HB := n4_; clear n0_ n1_ n2_ n3_ n4_; (try clear hb); (try clear hb2); (try clear hk); (try clear hi); (try clear ho0); obtain ⟨Ao300, co300, eo300⟩ := Kd.R_slice HO450.out; subst eo300; obtain ⟨Ao301, co301, eo301⟩ := Kd.R_slice HO454.out; subst eo301) | (go_at_call 28; (with_reducible refine (laws_ySame.calls k7 _ _ t447 _ _ t451 true _ ?side1 ?side2 ?side3 ?side4 A295.out).mono ?_); (case side1 => repeat (first | exact (Kd.R_reads' HO450.out).2.2 | (with_reducible refine cA ?_ _) | (with_reducible refine cN ?_ _) | (with_reducible refine cD ?_))); (case side2 => exact (Kd.R_reads' HO450.out).2.1); (case side3 => repeat (first | exact (Kd.R_reads' HO454.out).2.2 | (with_reducible refine cA ?_ _) | (with_reducible refine cN ?_ _) | (with_reducible refine cD ?_))); (case side4 => exact (Kd.R_reads' HO454.out).2.1); rintro e w' ⟨rfl, ⟨nd, rfl⟩⟩))
                     go_roundg k7
                     case measure => have := HJ3.out; have := HJ18.out; have := HJ74.out; have := HJ232.out; have := HJ271.out; have := HJ276.out; have := HK7.out; omega
                     case rel => exact ⟨(wrap64 (x56_7 + 1)), (by first | rfl | (simp; done) | (simp [*]; done)), H', ⟨by have := HJ3.out; have := HJ18.out; have := HJ74.out; have := HJ232.out; have := HJ271.out; have := HJ276.out; have := HK7.out; omega⟩, ⟨by (with_reducible repeat (first | apply rA | apply rN | apply rD)); exact HO_40.out⟩, ⟨by (with_reducible repeat (first | apply rA | apply rN | apply rD)); exact HO_48.out⟩, ⟨by repeat (first | (with_reducible first | exact HB.out | apply bA | apply bN | apply bD) | exact HB.out)⟩⟩
                   ·replace c296 := Bool.eq_false_iff.mpr c296
                    subst c296
                    have H1 : (none) = some r := by rw [if_neg (show ¬ (false = true) by decide)] at H; exact H
                    exact absurd H1 (by simp)
                  ·replace c294 := Bool.eq_false_iff.mpr c294
                   subst c294
                   have H1 : (none) = some r := by rw [if_neg (show ¬ (false = true) by decide)] at H; exact H
                   exact absurd H1 (by simp)
                 ·replace c293 := Bool.eq_false_iff.mpr c293
                  subst c293
                  have H1 : (none) = some r := by rw [if_neg (show ¬ (false = true) by decide)] at H; exact H
                  exact absurd H1 (by simp)
                ·replace c292 := Bool.eq_false_iff.mpr c292
                 subst c292
                 have H1 : (none) = some r := by rw [if_neg (show ¬ (false = true) by decide)] at H; exact H
                 exact absurd H1 (by simp)
              ·rw [if_neg c288] at H
               have c288b0 : decide (x56_7 < (ji287)) = false := decide_eq_false c288
               clear c288
               by_cases c316 : t429 = true
               ·subst c316
                have H1 : ((impl_KeysText.f k7 t428).bind fun bt443 => (if bt443.2 = true then (some (bt443.1.toList == a2.toList)) else (none))) = some r := by rw [if_pos rfl] at H; exact H
                clear H; have H := H1; clear H1
                replace H := Option.bind_eq_some_iff.mp H
                obtain ⟨⟨t443, t444⟩, A3170, H⟩ := H
                replace H : (if t444 = true then (some (t443.toList == a2.toList)) else (none)) = some r := H
                have A317 := aM A3170
                clear A3170
                by_cases c318 : t444 = true
                ·as_aux_lemma =>
                  subst c318
                  have H1 : (some (t443.toList == a2.toList)) = some r := by rw [if_pos rfl] at H; exact H
                  clear H; have H := H1; clear H1
                  obtain rfl := Option.some.inj H
                  obtain ⟨Ao319, co319, eo319⟩ := Kd.R_slice HO_48.out
                  subst eo319
                  go_wp2_with (first | ((with_reducible refine gate_callee (f := 15) rfl ?_); refine goesL_ (some 470) rfl rfl Tryz.func15 (by kernel_rfl) rfl #[.slice Ao319 t428.length co319] rfl (by (try simp only [List.map_toArray, List.map_cons, List.map_nil]); first | done | rfl | (simp only [List.length_drop, List.length_take]; rfl)) ?_; (with_reducible refine (impl_KeysText.calls k7 _ _ t428 t443 true _ ?side1 ?side2 A317.out).mono ?_); (case side1 => repeat (first | exact (Kd.R_reads' HO_48.out).2.2 | (with_reducible refine cA ?_ _) | (with_reducible refine cN ?_ _) | (with_reducible refine cD ?_))); (case side2 => exact (Kd.R_reads' HO_48.out).2.1); rintro e w320 ⟨rfl, hb⟩; refine ⟨_, rfl, ?_⟩; have n0_ := aM (Kd.R_below (by (with_reducible repeat (first | apply rA | apply rN | apply rD)); exact HO_40.out) hb); have n1_ := aM (Kd.R_below (by (with_reducible repeat (first | apply rA | apply rN | apply rD)); exact HO_48.out) hb); have n2_ := aM (below_step (by repeat (first | (with_reducible first | exact HB.out | apply bA | apply bN | apply bD) | exact HB.out)) hb); clear HO_40; clear HO_48; clear HB; have HO_40 := n0_; have HO_48 := n1_; have HB := n2_; clear n0_ n1_ n2_; (try clear hb); (try clear hb2); (try clear hk); (try clear hi)))
                  go_ret
                  exact ⟨by first | rfl | (simp [errW_none, errW_some] <;> rfl) | (simp only [← hji287]; first | rfl | (simp [errW_none, errW_some] <;> rfl)) | (simp [*, errW_none, errW_some] <;> rfl), by repeat (first | (with_reducible first | exact HB.out | apply bA | apply bN | apply bD) | exact HB.out)⟩
                ·replace c318 := Bool.eq_false_iff.mpr c318
                 subst c318
                 have H1 : (none) = some r := by rw [if_neg (show ¬ (false = true) by decide)] at H; exact H
                 exact absurd H1 (by simp)
               ·as_aux_lemma =>
                 replace c316 := Bool.eq_false_iff.mpr c316
                 subst c316
                 have H1 : (some true) = some r := by rw [if_neg (show ¬ (false = true) by decide)] at H; exact H
                 clear H; have H := H1; clear H1
                 obtain rfl := Option.some.inj H
                 go_wp2
                 go_ret
                 exact ⟨by first | rfl | (simp [errW_none, errW_some] <;> rfl) | (simp only [← hji287]; first | rfl | (simp [errW_none, errW_some] <;> rfl)) | (simp [*, errW_none, errW_some] <;> rfl), by repeat (first | (with_reducible first | exact HB.out | apply bA | apply bN | apply bD) | exact HB.out)⟩
            ·rw [if_neg c286] at H
             exact absurd H (by simp)
  ·replace c274 := Bool.eq_false_iff.mpr c274
   subst c274
   have H1 : (if t429 = true then ((impl_KeysText.f kj271 t428).bind fun bt456 => (if bt456.2 = true then (some (bt456.1.toList == a2.toList)) else (none))) else (some true)) = some r := by rw [if_neg (show ¬ (false = true) by decide)] at H; exact H
   clear H; have H := H1; clear H1
   by_cases c323 : t429 = true
   ·subst c323
    have H1 : ((impl_KeysText.f kj271 t428).bind fun bt456 => (if bt456.2 = true then (some (bt456.1.toList == a2.toList)) else (none))) = some r := by rw [if_pos rfl] at H; exact H
    clear H; have H := H1; clear H1
    replace H := Option.bind_eq_some_iff.mp H
    obtain ⟨⟨t456, t457⟩, A3240, H⟩ := H
    replace H : (if t457 = true then (some (t456.toList == a2.toList)) else (none)) = some r := H
    have A324 := aM A3240
    clear A3240
    by_cases c325 : t457 = true
    ·as_aux_lemma =>
      subst c325
      have H1 : (some (t456.toList == a2.toList)) = some r := by rw [if_pos rfl] at H; exact H
      clear H; have H := H1; clear H1
      obtain rfl := Option.some.inj H
      obtain ⟨Ao326, co326, eo326⟩ := Kd.R_slice HO_48.out
      subst eo326
      go_wp2_with (first | ((with_reducible refine gate_callee (f := 15) rfl ?_); refine goesL_ (some 470) rfl rfl Tryz.func15 (by kernel_rfl) rfl #[.slice Ao326 t428.length co326] rfl (by (try simp only [List.map_toArray, List.map_cons, List.map_nil]); first | done | rfl | (simp only [List.length_drop, List.length_take]; rfl)) ?_; (with_reducible refine (impl_KeysText.calls kj271 _ _ t428 t456 true _ ?side1 ?side2 A324.out).mono ?_); (case side1 => repeat (first | exact (Kd.R_reads' HO_48.out).2.2 | (with_reducible refine cA ?_ _) | (with_reducible refine cN ?_ _) | (with_reducible refine cD ?_))); (case side2 => exact (Kd.R_reads' HO_48.out).2.1); rintro e w327 ⟨rfl, hb⟩; refine ⟨_, rfl, ?_⟩; have n0_ := aM (Kd.R_below (by (with_reducible repeat (first | apply rA | apply rN | apply rD)); exact HO_40.out) hb); have n1_ := aM (Kd.R_below (by (with_reducible repeat (first | apply rA | apply rN | apply rD)); exact HO_44.out) hb); have n2_ := aM (Kd.R_below (by (with_reducible repeat (first | apply rA | apply rN | apply rD)); exact HO_48.out) hb); have n3_ := aM (below_step (by repeat (first | (with_reducible first | exact HB.out | apply bA | apply bN | apply bD) | exact HB.out)) hb); clear HO_40; clear HO_44; clear HO_48; clear HB; have HO_40 := n0_; have HO_44 := n1_; have HO_48 := n2_; have HB := n3_; clear n0_ n1_ n2_ n3_; (try clear hb); (try clear hb2); (try clear hk); (try clear hi)))
      go_ret
      exact ⟨by first | rfl | (simp [errW_none, errW_some] <;> rfl) | (simp [*, errW_none, errW_some] <;> rfl), by repeat (first | (with_reducible first | exact HB.out | apply bA | apply bN | apply bD) | exact HB.out)⟩
    ·replace c325 := Bool.eq_false_iff.mpr c325
     subst c325
     have H1 : (none) = some r := by rw [if_neg (show ¬ (false = true) by decide)] at H; exact H
     exact absurd H1 (by simp)
   ·as_aux_lemma =>
     replace c323 := Bool.eq_false_iff.mpr c323
     subst c323
     have H1 : (some true) = some r := by rw [if_neg (show ¬ (false = true) by decide)] at H; exact H
     clear H; have H := H1; clear H1
     obtain rfl := Option.some.inj H
     go_wp2
     go_ret
     exact ⟨by first | rfl | (simp [errW_none, errW_some] <;> rfl) | (simp [*, errW_none, errW_some] <;> rfl), by repeat (first | (with_reducible first | exact HB.out | apply bA | apply bN | apply bD) | exact HB.out)⟩

theorem laws_FnKeysToldOfAll.calls (k : Nat) (A0 : Option Addr) (c0 : Nat) (l0 : List ByteArray) (a1 : Int) (a2 : ByteArray) (r : Bool) (w : World) (hr0 : Kd.C Kd.string w A0 l0.length l0) (hc0 : l0.length ≤ c0) (h : laws_FnKeysToldOfAll.f k l0 a1 a2 = some r) :
  Calls Tryz.prog 3 #[.slice A0 l0.length c0, .int .i64 a1, .string a2] w fun e w' => e = .returned (.bool r) ∧ Below w.heap.size w w' := (laws_FnKeysToldOfAll.part1.2 ⟨laws_FnKeysToldOfAll.part2.2 ⟨laws_FnKeysToldOfAll.part3.2 ⟨laws_FnKeysToldOfAll.part4⟩⟩⟩) k A0 c0 l0 a1 a2 r w hr0 hc0 h
theorem laws_FnKeysToldOfAll.walk (P : laws_FnKeysToldOfAll.Pure) (A0 : Option Addr) (c0 : Nat) (l0 : List (ByteArray)) (a1 : Int) (a2 : ByteArray) (w : World) (hr0 : Kd.C Kd.string w A0 l0.length l0) (hc0 : l0.length ≤ c0) (w0_ : l0.length ≤ maxLen) (w1_ : (∀ x ∈ l0, x.size ≤ maxLen)) (w2_ : (Lit.int .i64 a1).wf = true) (w3_ : a2.size ≤ 140737488351232) :
  Calls Tryz.prog 3 #[.slice A0 l0.length c0, .int .i64 a1, .string a2] w fun e w' => e = .returned (.bool true) ∧ Below w.heap.size w w' := by
 obtain ⟨k, h⟩ := P l0 a1 a2 w0_ w1_ w2_ w3_
 refine (laws_FnKeysToldOfAll.calls k A0 c0 l0 a1 a2 true w hr0 hc0 h).mono ?_
 rintro e w' ⟨rfl, hd⟩
 exact ⟨rfl, hd⟩

end Go.Proofs.YtbmbehkdidlolaaGreatDoor.PT
