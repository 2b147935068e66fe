/-
  The law's walk, part 3.
-/
import Derived.Test.YtbmbehkdidlolaaGreatDoorPTx16
namespace Go.Proofs.YtbmbehkdidlolaaGreatDoor.PT
open Go.RowKit Go.Proofs.YtbmbehkdidlolaaGreatDoorW.PrintWords Go.Proofs.YtbmbehkdidlolaaGreatDoorW.PrintLast Go.Proofs.YtbmbehkdidlolaaGreatDoorW.PrintMore
attribute [local go_sem] max2_int min2_int max_two min_two max_three min_three max_four min_four   -- for this text's walks alone
set_option linter.unusedVariables false
set_option linter.unusedSimpArgs false

set_option maxHeartbeats 40000000 in
set_option maxRecDepth 100000 in
noncomputable def laws_FnKeysToldOfAll.part3 : { G_ : Prop // Held_ G_ → (laws_FnKeysToldOfAll.part2.1) } := by
 apply Subtype.mk
 case property =>
  intro hrest_
  intro k A0 c0 l0 a1 a2 r w HR0 HC0 _ _ _ _ _ _ _ _ _ _ _ _ _ _ _ _ _ _ _ _ _ _ _ _ _ _ _ _ _ _ _ _ _ _ _ _ _ _ _ _ _ _ _ _ _ _ _ _ _ _ _ _ _ _ _ _ _ _ _ _ _ _ _ _ _ _ _ _ _ _ _ _ _ _ _ _ _ _ _ _ _ _ _ _ _ _ _ _ _ _ _ _ _ _ _ _ _ _ _ _ _ _ _ _ _ _ _ _ _ _ _ _ _ _ _ _ _ _ _ _ _ _ _ _ _ _ _ _ _ _ _ _ _ _ _ _ _ _ _ _ _ _ _ _ _ _ _ _ _ _ _ _ _ _ _ _ _ _ _ _ _ _ _ _ _ _ _ _ _ _ _ _ _ _ _ _ _ _ _ _ _ _ _ _ _ _ _ _ _ _ _ _ _ _ _ _ _ _ _ _ _ _ _ _ _ _ _ _ _ _ _ _ _ _ _ _ _ _ _ _ _ _ _ _ _ _ _ _ _ _ _ _ _ _ _ _ _ _ _ _ _ _ _ _ _ _ _ _ _ _ _ _ _ _ _ _ _ _ _ _ _ _ _ _ _ _ _ _ _ _ _ _ _ _ _ _ _ _ _ _ _ _ _ _ _ _ _ _ _ _ _ _ _ _ _ _ _ _ _ _ _ _ _ _ _ _ _ _ _ _ _ _ _ _ _ _ _ _ _ _ _ _ _ _ _ _ _ _ _ _ _ _ _ _ _ _ _ _ _ _ _ _ _ _ _ _ _ _ _ _ _ _ _ _ _ _ _ _ _ _ _ _ _ _ _ _ _ _ _ _ _ _ _ _ _ _ _ _ _ _ _ _ _ _ _ _ _ _ _ _ _ _ _ _ _ _ _ _ _ _ _ _ _ _ _ _ _ _ _ _ _ _ _ _ _ _ kj3 HJ3 t368 t369 A7 t370 t371 A8 t372 t373 A9 t374 t375 A10 t376 t377 A11 t378 t379 A12 t380 t381 A13 t382 t383 A14 t384 t385 A15 t388 t389 A16 t392 t393 A17 t394 t395 A18 w20 w21 w22 w23 w24 w25 w26 w27 w28 v386 w29 v390 w30 HO387 HO391 _ nd _ _ _ _ _ _ _ _ _ _ _ _ _ _ _ _ _ _ _ _ _ _ _ _ _ _ _ _ _ _ _ _ _ _ _ _ _ _ _ _ _ _ _ _ _ _ _ _ _ _ _ _ _ _ _ _ _ _ _ _ _ _ _ _ _ _ _ _ _ _ _ _ _ _ _ _ _ _ _ _ _ _ _ _ _ _ _ _ _ _ _ _ _ _ _ _ _ _ _ _ _ _ _ _ _ _ _ _ _ _ _ _ _ _ _ _ _ _ _ _ _ _ _ _ _ _ _ _ _ _ _ _ _ _ _ _ _ _ _ _ _ _ _ _ _ _ _ _ _ _ _ _ _ _ _ _ _ _ _ _ _ _ _ _ _ _ _ _ _ _ _ _ _ _ _ _ _ _ _ _ _ _ _ _ _ _ _ _ _ _ _ _ _ _ _ _ _ _ _ _ _ _ _ _ _ _ _ _ _ _ _ _ _ _ _ _ _ _ _ _ _ _ _ _ _ _ _ _ _ _ _ _ _ _ _ _ _ _ _ _ _ _ _ _ _ _ _ _ _ _ _ _ _ _ _ _ _ _ _ _ _ _ _ _ _ _ _ _ _ _ _ _ _ _ _ _ _ _ _ _ _ _ _ _ _ _ _ _ _ _ _ _ _ _ _ _ _ _ _ _ _ _ _ _ _ _ _ _ _ _ _ _ _ _ _ _ _ _ _ _ _ _ _ _ _ _ _ _ _ _ _ _ _ _ _ _ _ _ _ _ _ _ _ _ _ _ _ _ _ _ _ _ _ _ _ _ _ _ _ _ _ _ _ _ _ _ _ _ _ _ _ _ _ _ _ _ _ _ _ _ _ _ _ _ _ _ _ _ _ _ _ _ _ _ _ _ _ _ _ _ _ _ _ _ _ _ _ _ _ _ _ _ _ _ HO_23 HB kj18 HJ18 HC75 _ _ wc u6 u31 u32 u33 u34 u35 u36 u37 u38 u39 u65 u66 u67 u68 u69 u70 u71 u72 u73 u74 u75 u76 u77 u78 u79 u80 u81 u82 u83 u84 u85 u86 u87 u88 u89 u90 u91 u92 u93 u94 u95 u96 u97 u98 u99 u100 u101 u102 u103 u104 u105 u106 u107 u108 u109 u110 u111 u112 u113 u114 u115 u116 u117 u118 u119 u120 u121 u122 u123 u124 u125 u126 u127 u128 u129 u130 u131 u132 u133 u134 u135 u136 u137 u138 u139 u140 u141 u142 u143 u144 u145 u146 u147 u148 u149 u150 u151 u152 u153 u154 u155 u156 u157 u158 u159 u160 u161 u162 u163 u164 u165 u166 u167 u168 u169 u170 u171 u172 u173 u174 u175 u176 u177 u178 u179 u180 u181 u182 u183 u184 u185 u186 u187 u188 u189 u190 u191 u192 u193 u194 u195 u196 u197 u198 u199 u200 u201 u202 u203 u204 u205 u206 u207 u208 u209 u210 u211 u212 u213 u214 u215 u216 u217 u218 u219 u220 u221 u222 u223 u224 u225 u226 u227 u228 u229 u230 u231 u232 u233 u234 u235 u236 u237 u238 u239 u240 u241 u242 u243 u244 u245 u246 u247 u248 u249 u250 u251 u252 u253 u254 u255 u256 u257 u258 u259 u260 u261 u262 u263 u264 u265 u266 u267 u268 u269 u270 u271 u272 u273 u274 u275 u276 u277 u278 u279 u280 u281 u282 u283 u284 u285 u286 u287 u288 u289 u290 u291 u292 u293 u294 u295 u296 u297 u298 u299 u300 u301 u302 u303 u304 u305 u306 u307 u308 u309 u310 u311 u312 u313 u314 u315 u316 u317 u318 u319 u320 u321 u322 u323 u324 u325 u326 u327 u328 u329 u330 u331 u332 u333 u334 u335 u336 u337 u338 u339 u340 u341 u342 u343 u344 u345 u346 u347 u348 u349 u350 u351 u352 u353 u354 u355 u356 u357 u358 u359 u360 u361 u362 u363 u364 u365 u366 u367 u368 u369 u370 u371 u372 u373 u374 u375 u376 u377 u378 u379 u380 u381 u382 u383 u384 u385 u386 u387 u388 u389 u390 u391 u392 u393 u394 u395 u396 u397 u398 u399 u400 u401 u402 u403 u404 u405 u406 u407 u408 u409 u410 u411 u412 u413 u414 u415 u416 u417 u418 u419 u420 u421 u422 u423 u424 u425 u426 u427 u428 u429 u430 u431 u432 u433 u434 u435 u436 u437 u438 u439 u440 u441 u442 u443 u444 u445 u446 u447 u448 u449 u450 u451 u452 u453 u454 u455 u456 u457 u458 u459 u460 u461 u462 u463 u464 u465 u466 u467 u468 u469 u470 u471 u472 u473 u474 u475 u476 u477 u478 hcut
  clear HC75
  try clear c1
  try clear p2
  try clear c3
  try clear c4
  try clear c5
  try clear c5b0
  try clear c5b1
  try clear c6
  try clear p6
  try clear c7
  try clear c8
  try clear c9
  try clear c10
  try clear c11
  try clear c12
  try clear c13
  try clear c14
  try clear c15
  try clear c16
  try clear c19
  try clear c31
  try clear c31b0
  try clear c31b1
  try clear c31b2
  try clear c32
  try clear c32b0
  try clear c32b1
  try clear c33
  try clear c33b0
  try clear c33b1
  try clear c33b2
  try clear c34
  try clear c34b0
  try clear c34b1
  try clear c35
  try clear c35b0
  try clear c35b1
  try clear c35b2
  try clear c36
  try clear c36b0
  try clear c36b1
  try clear c37
  try clear c37b0
  try clear c37b1
  try clear c37b2
  try clear c38
  try clear c38b0
  try clear c38b1
  try clear c38b2
  try clear c39
  try clear c39b0
  try clear c39b1
  try clear c39b2
  try clear c41
  try clear c42
  try clear c42b0
  try clear c42b1
  try clear c42b2
  try clear c45
  try clear c45b0
  try clear c45b1
  try clear c47
  try clear c47b0
  try clear c47b1
  try clear c47b2
  try clear c51
  try clear c51b0
  try clear c51b1
  try clear c51b2
  try clear c55
  try clear c55b0
  try clear c55b1
  try clear c55b2
  try clear c59
  try clear c59b0
  try clear c59b1
  try clear c59b2
  try clear c63
  try clear c63b0
  try clear c63b1
  try clear c63b2
  try clear p64
  try clear c74
  try clear c76
  try clear c82
  try clear c84
  try clear c85
  try clear c86
  try clear c86b0
  try clear c86b1
  try clear c87
  try clear c88
  try clear c88b0
  try clear c88b1
  try clear c89
  try clear c91
  try clear c92
  try clear c92b0
  try clear c100
  try clear c100b0
  try clear c108
  try clear c108b0
  try clear c116
  try clear c116b0
  try clear c124
  try clear c125
  try clear c125b0
  try clear c125b1
  try clear c126
  try clear c126b0
  try clear c126b1
  try clear c127
  try clear c127b0
  try clear c127b1
  try clear c128
  try clear c128b0
  try clear c164
  try clear c164b0
  try clear p2
  obtain ⟨kq, HA, HJ74, HB⟩ := hcut
  cases kq with
  | zero => exact absurd HA.out (by simp [laws_FnKeysToldOfAll.j2])
  | succ kj74 =>
   have H := HA.out
   clear HA
   simp only [laws_FnKeysToldOfAll.j2] at H
   replace H := Option.bind_eq_some_iff.mp H
   obtain ⟨⟨t412, t413⟩, A2270, H⟩ := H
   replace H : ((spec_BarKeys.f kj74 a1).bind fun bt416 => ((impl_FreeKeys.f a1).bind fun bt420 => ((spec_FreeKeys.f kj74 a1).bind fun bt424 => ((impl_ParseKeys.f kj74 a2).bind fun bt428 => ((spec_ParseKeys.f kj74 a2).bind fun bt432 => (if (t413 != bt416.2) = true then (none) else ((laws_yTexts.f kj74 t412 bt416.1).bind fun t436 => (if t436 = true then (if (bt420.2 != bt424.2) = true then (none) else ((laws_yTexts.f kj74 bt420.1 bt424.1).bind fun t437 => (if t437 = true then (if (bt420.2 != t413) = true then (none) else (if (bt428.2 != bt432.2) = true then (none) else ((laws_yTexts.f kj74 bt428.1 bt432.1).bind fun t438 => (laws_FnKeysToldOfAll.j3 kj74 a1 a2 t412 t413 bt420.1 bt428.1 bt428.2 (!t438))))) else (none)))) else (none))))))))) = some r := H
   have A227 := aM A2270
   clear A2270
   replace H := Option.bind_eq_some_iff.mp H
   obtain ⟨⟨t416, t417⟩, A2280, H⟩ := H
   replace H : ((impl_FreeKeys.f a1).bind fun bt420 => ((spec_FreeKeys.f kj74 a1).bind fun bt424 => ((impl_ParseKeys.f kj74 a2).bind fun bt428 => ((spec_ParseKeys.f kj74 a2).bind fun bt432 => (if (t413 != t417) = true then (none) else ((laws_yTexts.f kj74 t412 t416).bind fun t436 => (if t436 = true then (if (bt420.2 != bt424.2) = true then (none) else ((laws_yTexts.f kj74 bt420.1 bt424.1).bind fun t437 => (if t437 = true then (if (bt420.2 != t413) = true then (none) else (if (bt428.2 != bt432.2) = true then (none) else ((laws_yTexts.f kj74 bt428.1 bt432.1).bind fun t438 => (laws_FnKeysToldOfAll.j3 kj74 a1 a2 t412 t413 bt420.1 bt428.1 bt428.2 (!t438))))) else (none)))) else (none)))))))) = some r := H
   have A228 := aM A2280
   clear A2280
   replace H := Option.bind_eq_some_iff.mp H
   obtain ⟨⟨t420, t421⟩, A2290, H⟩ := H
   replace H : ((spec_FreeKeys.f kj74 a1).bind fun bt424 => ((impl_ParseKeys.f kj74 a2).bind fun bt428 => ((spec_ParseKeys.f kj74 a2).bind fun bt432 => (if (t413 != t417) = true then (none) else ((laws_yTexts.f kj74 t412 t416).bind fun t436 => (if t436 = true then (if (t421 != bt424.2) = true then (none) else ((laws_yTexts.f kj74 t420 bt424.1).bind fun t437 => (if t437 = true then (if (t421 != t413) = true then (none) else (if (bt428.2 != bt432.2) = true then (none) else ((laws_yTexts.f kj74 bt428.1 bt432.1).bind fun t438 => (laws_FnKeysToldOfAll.j3 kj74 a1 a2 t412 t413 t420 bt428.1 bt428.2 (!t438))))) else (none)))) else (none))))))) = some r := H
   have A229 := aM A2290
   clear A2290
   replace H := Option.bind_eq_some_iff.mp H
   obtain ⟨⟨t424, t425⟩, A2300, H⟩ := H
   replace H : ((impl_ParseKeys.f kj74 a2).bind fun bt428 => ((spec_ParseKeys.f kj74 a2).bind fun bt432 => (if (t413 != t417) = true then (none) else ((laws_yTexts.f kj74 t412 t416).bind fun t436 => (if t436 = true then (if (t421 != t425) = true then (none) else ((laws_yTexts.f kj74 t420 t424).bind fun t437 => (if t437 = true then (if (t421 != t413) = true then (none) else (if (bt428.2 != bt432.2) = true then (none) else ((laws_yTexts.f kj74 bt428.1 bt432.1).bind fun t438 => (laws_FnKeysToldOfAll.j3 kj74 a1 a2 t412 t413 t420 bt428.1 bt428.2 (!t438))))) else (none)))) else (none)))))) = some r := H
   have A230 := aM A2300
   clear A2300
   replace H := Option.bind_eq_some_iff.mp H
   obtain ⟨⟨t428, t429⟩, A2310, H⟩ := H
   replace H : ((spec_ParseKeys.f kj74 a2).bind fun bt432 => (if (t413 != t417) = true then (none) else ((laws_yTexts.f kj74 t412 t416).bind fun t436 => (if t436 = true then (if (t421 != t425) = true then (none) else ((laws_yTexts.f kj74 t420 t424).bind fun t437 => (if t437 = true then (if (t421 != t413) = true then (none) else (if (t429 != bt432.2) = true then (none) else ((laws_yTexts.f kj74 t428 bt432.1).bind fun t438 => (laws_FnKeysToldOfAll.j3 kj74 a1 a2 t412 t413 t420 t428 t429 (!t438))))) else (none)))) else (none))))) = some r := H
   have A231 := aM A2310
   clear A2310
   replace H := Option.bind_eq_some_iff.mp H
   obtain ⟨⟨t432, t433⟩, A2320, H⟩ := H
   replace H : (if (t413 != t417) = true then (none) else ((laws_yTexts.f kj74 t412 t416).bind fun t436 => (if t436 = true then (if (t421 != t425) = true then (none) else ((laws_yTexts.f kj74 t420 t424).bind fun t437 => (if t437 = true then (if (t421 != t413) = true then (none) else (if (t429 != t433) = true then (none) else ((laws_yTexts.f kj74 t428 t432).bind fun t438 => (laws_FnKeysToldOfAll.j3 kj74 a1 a2 t412 t413 t420 t428 t429 (!t438))))) else (none)))) else (none)))) = some r := H
   have A232 := aM A2320
   clear A2320
   have HC233 := aM H
   clear H
   go_upto_region 31 with (first | ((with_reducible refine gate_callee (f := 20) rfl ?_); refine goesL_ (some 334) rfl rfl Tryz.func20 (by kernel_rfl) rfl #[.int .i64 a1] rfl (by (try simp only [List.map_toArray, List.map_cons, List.map_nil]); first | done | rfl | (simp only [List.length_drop, List.length_take]; rfl)) ?_; (with_reducible refine (impl_BarKeys.calls kj74 a1 t412 t413 _ A227.out).mono ?_); rintro e w234 ⟨v414, rfl, ho0, hb⟩; refine ⟨_, rfl, ?_⟩; have n0_ := aM (Kd.R_lower ho0 (below_size (by repeat (first | (with_reducible first | exact HB.out | apply bA | apply bN | apply bD) | exact HB.out)))); have n1_ := aM (below_step (by repeat (first | (with_reducible first | exact HB.out | apply bA | apply bN | apply bD) | exact HB.out)) hb); clear HB; have HO415 := n0_; have HB := n1_; clear n0_ n1_; (try clear hb); (try clear hb2); (try clear hk); (try clear hi); (try clear ho0)) | ((with_reducible refine gate_callee (f := 21) rfl ?_); refine goesL_ (some 339) rfl rfl Tryz.func21 (by kernel_rfl) rfl #[.int .i64 a1] rfl (by (try simp only [List.map_toArray, List.map_cons, List.map_nil]); first | done | rfl | (simp only [List.length_drop, List.length_take]; rfl)) ?_; (with_reducible refine (spec_BarKeys.calls kj74 a1 t416 t417 _ A228.out).mono ?_); rintro e w235 ⟨v418, rfl, ho0, hb⟩; refine ⟨_, rfl, ?_⟩; have n0_ := aM (Kd.R_elder' (by (with_reducible repeat (first | apply rA | apply rN | apply rD)); exact HO415.out) (Kd.R_base ho0) hb); have n1_ := aM (Kd.R_lower (Kd.R_new' ho0 (Kd.R_lt (by (with_reducible repeat (first | apply rA | apply rN | apply rD)); exact HO415.out))) (below_size (by repeat (first | (with_reducible first | exact HB.out | apply bA | apply bN | apply bD) | exact HB.out)))); have n2_ := aM (below_step (by repeat (first | (with_reducible first | exact HB.out | apply bA | apply bN | apply bD) | exact HB.out)) hb); clear HO415; clear HB; have HO415 := n0_; have HO419 := n1_; have HB := n2_; clear n0_ n1_ n2_; (try clear hb); (try clear hb2); (try clear hk); (try clear hi); (try clear ho0)) | ((with_reducible refine gate_callee (f := 22) rfl ?_); refine goesL_ (some 344) rfl rfl Tryz.func22 (by kernel_rfl) rfl #[.int .i64 a1] rfl (by (try simp only [List.map_toArray, List.map_cons, List.map_nil]); first | done | rfl | (simp only [List.length_drop, List.length_take]; rfl)) ?_; (with_reducible refine (impl_FreeKeys.calls a1 t420 t421 _ A229.out).mono ?_); rintro e w236 ⟨v422, rfl, ho0, hb⟩; refine ⟨_, rfl, ?_⟩; have n0_ := aM (Kd.R_elder' (by (with_reducible repeat (first | apply rA | apply rN | apply rD)); exact HO415.out) (Kd.R_base ho0) hb); have n1_ := aM (Kd.R_elder' (by (with_reducible repeat (first | apply rA | apply rN | apply rD)); exact HO419.out) (Kd.R_base ho0) hb); have n2_ := aM (Kd.R_lower (Kd.R_new' (Kd.R_new' ho0 (Kd.R_lt (by (with_reducible repeat (first | apply rA | apply rN | apply rD)); exact HO415.out))) (Kd.R_lt (by (with_reducible repeat (first | apply rA | apply rN | apply rD)); exact HO419.out))) (below_size (by repeat (first | (with_reducible first | exact HB.out | apply bA | apply bN | apply bD) | exact HB.out)))); have n3_ := aM (below_step (by repeat (first | (with_reducible first | exact HB.out | apply bA | apply bN | apply bD) | exact HB.out)) hb); clear HO415; clear HO419; clear HB; have HO415 := n0_; have HO419 := n1_; have HO423 := n2_; have HB := n3_; clear n0_ n1_ n2_ n3_; (try clear hb); (try clear hb2); (try clear hk); (try clear hi); (try clear ho0)) | ((with_reducible refine gate_callee (f := 23) rfl ?_); refine goesL_ (some 349) rfl rfl Tryz.func23 (by kernel_rfl) rfl #[.int .i64 a1] rfl (by (try simp only [List.map_toArray, List.map_cons, List.map_nil]); first | done | rfl | (simp only [List.length_drop, List.length_take]; rfl)) ?_; (with_reducible refine (spec_FreeKeys.calls kj74 a1 t424 t425 _ A230.out).mono ?_); rintro e w237 ⟨v426, rfl, ho0, hb⟩; refine ⟨_, rfl, ?_⟩; have n0_ := aM (Kd.R_elder' (by (with_reducible repeat (first | apply rA | apply rN | apply rD)); exact HO415.out) (Kd.R_base ho0) hb); have n1_ := aM (Kd.R_elder' (by (with_reducible repeat (first | apply rA | apply rN | apply rD)); exact HO419.out) (Kd.R_base ho0) hb); have n2_ := aM (Kd.R_elder' (by (with_reducible repeat (first | apply rA | apply rN | apply rD)); exact HO423.out) (Kd.R_base ho0) hb); have n3_ := aM (Kd.R_lower (Kd.R_new' (Kd.R_new' (Kd.R_new' ho0 (Kd.R_lt (by (with_reducible repeat (first | apply rA | apply rN | apply rD)); exact HO415.out))) (Kd.R_lt (by (with_reducible repeat (first | apply rA | apply rN | apply rD)); exact HO419.out))) (Kd.R_lt (by (with_reducible repeat (first | apply rA | apply rN | apply rD)); exact HO423.out))) (below_size (by repeat (first | (with_reducible first | exact HB.out | apply bA | apply bN | apply bD) | exact HB.out)))); have n4_ := aM (below_step (by repeat (first | (with_reducible first | exact HB.out | apply bA | apply bN | apply bD) | exact HB.out)) hb); clear HO415; clear HO419; clear HO423; clear HB; have HO415 := n0_; have HO419 := n1_; have HO423 := n2_; have HO427 := n3_; have HB := n4_; clear n0_ n1_ n2_ n3_ n4_; (try clear hb); (try clear hb2); (try clear hk); (try clear hi); (try clear ho0)) | ((with_reducible refine gate_callee (f := 19) rfl ?_); refine goesL_ (some 354) rfl rfl Tryz.func19 (by kernel_rfl) rfl #[.string a2] rfl (by (try simp only [List.map_toArray, List.map_cons, List.map_nil]); first | done | rfl | (simp only [List.length_drop, List.length_take]; rfl)) ?_; (with_reducible refine (impl_ParseKeys.calls kj74 a2 t428 t429 _ A231.out).mono ?_); rintro e w238 ⟨v430, rfl, ho0, hb⟩; refine ⟨_, rfl, ?_⟩; have n0_ := aM (Kd.R_elder' (by (with_reducible repeat (first | apply rA | apply rN | apply rD)); exact HO415.out) (Kd.R_base ho0) hb); have n1_ := aM (Kd.R_elder' (by (with_reducible repeat (first | apply rA | apply rN | apply rD)); exact HO419.out) (Kd.R_base ho0) hb); have n2_ := aM (Kd.R_elder' (by (with_reducible repeat (first | apply rA | apply rN | apply rD)); exact HO423.out) (Kd.R_base ho0) hb); have n3_ := aM (Kd.R_elder' (by (with_reducible repeat (first | apply rA | apply rN | apply rD)); exact HO427.out) (Kd.R_base ho0) hb); have n4_ := aM (Kd.R_lower (Kd.R_new' (Kd.R_new' (Kd.R_new' (Kd.R_new' ho0 (Kd.R_lt (by (with_reducible repeat (first | apply rA | apply rN | apply rD)); exact HO415.out))) (Kd.R_lt (by (with_reducible repeat (first | apply rA | apply rN | apply rD)); exact HO419.out))) (Kd.R_lt (by (with_reducible repeat (first | apply rA | apply rN | apply rD)); exact HO423.out))) (Kd.R_lt (by (with_reducible repeat (first | apply rA | apply rN | apply rD)); exact HO427.out))) (below_size (by repeat (first | (with_reducible first | exact HB.out | apply bA | apply bN | apply bD) | exact HB.out)))); have n5_ := aM (below_step (by repeat (first | (with_reducible first | exact HB.out | apply bA | apply bN | apply bD) | exact HB.out)) hb); clear HO415; clear HO419; clear HO423; clear HO427; clear HB; have HO415 := n0_; have HO419 := n1_; have HO423 := n2_; have HO427 := n3_; have HO431 := n4_; have HB := n5_; clear n0_ n1_ n2_ n3_ n4_ n5_; (try clear hb); (try clear hb2); (try clear hk); (try clear hi); (try clear ho0)) | ((with_reducible refine gate_callee (f := 24) rfl ?_); refine goesL_ (some 359) rfl rfl Tryz.func24 (by kernel_rfl) rfl #[.string a2] rfl (by (try simp only [List.map_toArray, List.map_cons, List.map_nil]); first | done | rfl | (simp only [List.length_drop, List.length_take]; rfl)) ?_; (with_reducible refine (spec_ParseKeys.calls kj74 a2 t432 t433 _ A232.out).mono ?_); rintro e w239 ⟨v434, rfl, ho0, hb⟩; refine ⟨_, rfl, ?_⟩; have n0_ := aM (Kd.R_elder' (by (with_reducible repeat (first | apply rA | apply rN | apply rD)); exact HO415.out) (Kd.R_base ho0) hb); have n1_ := aM (Kd.R_elder' (by (with_reducible repeat (first | apply rA | apply rN | apply rD)); exact HO419.out) (Kd.R_base ho0) hb); have n2_ := aM (Kd.R_elder' (by (with_reducible repeat (first | apply rA | apply rN | apply rD)); exact HO423.out) (Kd.R_base ho0) hb); have n3_ := aM (Kd.R_elder' (by (with_reducible repeat (first | apply rA | apply rN | apply rD)); exact HO427.out) (Kd.R_base ho0) hb); have n4_ := aM (Kd.R_elder' (by (with_reducible repeat (first | apply rA | apply rN | apply rD)); exact HO431.out) (Kd.R_base ho0) hb); have n5_ := aM (Kd.R_lower (Kd.R_new' (Kd.R_new' (Kd.R_new' (Kd.R_new' (Kd.R_new' ho0 (Kd.R_lt (by (with_reducible repeat (first | apply rA | apply rN | apply rD)); exact HO415.out))) (Kd.R_lt (by (with_reducible repeat (first | apply rA | apply rN | apply rD)); exact HO419.out))) (Kd.R_lt (by (with_reducible repeat (first | apply rA | apply rN | apply rD)); exact HO423.out))) (Kd.R_lt (by (with_reducible repeat (first | apply rA | apply rN | apply rD)); exact HO427.out))) (Kd.R_lt (by (with_reducible repeat (first | apply rA | apply rN | apply rD)); exact HO431.out))) (below_size (by repeat (first | (with_reducible first | exact HB.out | apply bA | apply bN | apply bD) | exact HB.out)))); have n6_ := aM (below_step (by repeat (first | (with_reducible first | exact HB.out | apply bA | apply bN | apply bD) | exact HB.out)) hb); clear HO415; clear HO419; clear HO423; clear HO427; clear HO431; clear HB; have HO415 := n0_; have HO419 := n1_; have HO423 := n2_; have HO427 := n3_; have HO431 := n4_; have HO435 := n5_; have HB := n6_; clear n0_ n1_ n2_ n3_ n4_ n5_ n6_; (try clear hb); (try clear hb2); (try clear hk); (try clear hi); (try clear ho0)))
   (try simp only [Act.put, sA, sB, sC])
   go_cut [397] (fun v397 wc => ∃ (kq : Nat) (x397_232 : Bool), v397 = .bool x397_232 ∧ Aside0 (laws_FnKeysToldOfAll.j3 kq a1 a2 t412 t413 t420 t428 t429 x397_232 = some r) ∧ Aside0 (kq ≤ kj74) ∧ Aside0 (Kd.R Kd.string 9 wc w.heap.size (fun k_ => some k_ ≠ (v422 : Value).ownBlock ∧ some k_ ≠ (v430 : Value).ownBlock) v414 t412) ∧ Aside0 (Kd.R Kd.string 9 wc w.heap.size (fun k_ => some k_ ≠ (v414 : Value).ownBlock ∧ some k_ ≠ (v430 : Value).ownBlock) v422 t420) ∧ Aside0 (Kd.R Kd.string 9 wc w.heap.size (fun k_ => some k_ ≠ (v414 : Value).ownBlock ∧ some k_ ≠ (v422 : Value).ownBlock) v430 t428) ∧ Aside0 (Below w.heap.size w wc))
   case first =>
    as_aux_lemma =>
     have H := HC233.out
     clear HC233
     by_cases c240 : (t413 != t417) = true
     ·rw [if_pos c240] at H
      exact absurd H (by simp)
     ·as_aux_lemma =>
       rw [if_neg c240] at H
       have c240b0 : (t413 != t417) = false := by simpa using c240
       (try (have c240b1 : decide (t413 = t417) = true := by simpa using c240))
       (try (have c240b2 : (t413 == t417) = true := by simpa using c240))
       clear c240
       (first | rw [c240b0] | (simp only [i64_w, i32_w]; rw [c240b0]) | skip)
       replace H := Option.bind_eq_some_iff.mp H
       obtain ⟨t436, A2410, H⟩ := H
       replace H : (if t436 = true then (if (t421 != t425) = true then (none) else ((laws_yTexts.f kj74 t420 t424).bind fun t437 => (if t437 = true then (if (t421 != t413) = true then (none) else (if (t429 != t433) = true then (none) else ((laws_yTexts.f kj74 t428 t432).bind fun t438 => (laws_FnKeysToldOfAll.j3 kj74 a1 a2 t412 t413 t420 t428 t429 (!t438))))) else (none)))) else (none)) = some r := H
       have A241 := aM A2410
       clear A2410
       by_cases c242 : t436 = true
       ·subst c242
        have H1 : (if (t421 != t425) = true then (none) else ((laws_yTexts.f kj74 t420 t424).bind fun t437 => (if t437 = true then (if (t421 != t413) = true then (none) else (if (t429 != t433) = true then (none) else ((laws_yTexts.f kj74 t428 t432).bind fun t438 => (laws_FnKeysToldOfAll.j3 kj74 a1 a2 t412 t413 t420 t428 t429 (!t438))))) else (none)))) = some r := by rw [if_pos rfl] at H; exact H
        clear H; have H := H1; clear H1
        by_cases c243 : (t421 != t425) = true
        ·rw [if_pos c243] at H
         exact absurd H (by simp)
        ·rw [if_neg c243] at H
         have c243b0 : (t421 != t425) = false := by simpa using c243
         (try (have c243b1 : decide (t421 = t425) = true := by simpa using c243))
         (try (have c243b2 : (t421 == t425) = true := by simpa using c243))
         clear c243
         replace H := Option.bind_eq_some_iff.mp H
         obtain ⟨t437, A2460, H⟩ := H
         replace H : (if t437 = true then (if (t421 != t413) = true then (none) else (if (t429 != t433) = true then (none) else ((laws_yTexts.f kj74 t428 t432).bind fun t438 => (laws_FnKeysToldOfAll.j3 kj74 a1 a2 t412 t413 t420 t428 t429 (!t438))))) else (none)) = some r := H
         have A246 := aM A2460
         clear A2460
         by_cases c247 : t437 = true
         ·subst c247
          have H1 : (if (t421 != t413) = true then (none) else (if (t429 != t433) = true then (none) else ((laws_yTexts.f kj74 t428 t432).bind fun t438 => (laws_FnKeysToldOfAll.j3 kj74 a1 a2 t412 t413 t420 t428 t429 (!t438))))) = some r := by rw [if_pos rfl] at H; exact H
          clear H; have H := H1; clear H1
          by_cases c248 : (t421 != t413) = true
          ·rw [if_pos c248] at H
           exact absurd H (by simp)
          ·rw [if_neg c248] at H
           have c248b0 : (t421 != t413) = false := by simpa using c248
           (try (have c248b1 : decide (t421 = t413) = true := by simpa using c248))
           (try (have c248b2 : (t421 == t413) = true := by simpa using c248))
           clear c248
           by_cases c253 : (t429 != t433) = true
           ·rw [if_pos c253] at H
            exact absurd H (by simp)
           ·as_aux_lemma =>
             rw [if_neg c253] at H
             have c253b0 : (t429 != t433) = false := by simpa using c253
             (try (have c253b1 : decide (t429 = t433) = true := by simpa using c253))
             (try (have c253b2 : (t429 == t433) = true := by simpa using c253))
             clear c253
             replace H := Option.bind_eq_some_iff.mp H
             obtain ⟨t438, A2580, H⟩ := H
             replace H : (laws_FnKeysToldOfAll.j3 kj74 a1 a2 t412 t413 t420 t428 t429 (!t438)) = some r := H
             have A258 := aM A2580
             clear A2580
             have H' := aM H
             clear H
             obtain ⟨Ao259, co259, eo259⟩ := Kd.R_slice HO415.out
             subst eo259
             obtain ⟨Ao260, co260, eo260⟩ := Kd.R_slice HO419.out
             subst eo260
             go_wp2_with (first | (go_at_call 17; (with_reducible refine (laws_yTexts.calls kj74 _ _ t412 _ _ t416 true _ ?side1 ?side2 ?side3 ?side4 A241.out).mono ?_); (case side1 => repeat (first | exact (Kd.R_reads' HO415.out).2.2 | (with_reducible refine cA ?_ _) | (with_reducible refine cN ?_ _) | (with_reducible refine cD ?_))); (case side2 => exact (Kd.R_reads' HO415.out).2.1); (case side3 => repeat (first | exact (Kd.R_reads' HO419.out).2.2 | (with_reducible refine cA ?_ _) | (with_reducible refine cN ?_ _) | (with_reducible refine cD ?_))); (case side4 => exact (Kd.R_reads' HO419.out).2.1); rintro e w' ⟨rfl, ⟨nd, rfl⟩⟩; obtain ⟨Ao261, co261, eo261⟩ := Kd.R_slice HO423.out; subst eo261; obtain ⟨Ao262, co262, eo262⟩ := Kd.R_slice HO427.out; subst eo262) | (go_at_call 17; (with_reducible refine (laws_yTexts.calls kj74 _ _ t420 _ _ t424 true _ ?side1 ?side2 ?side3 ?side4 A246.out).mono ?_); (case side1 => repeat (first | exact (Kd.R_reads' HO423.out).2.2 | (with_reducible refine cA ?_ _) | (with_reducible refine cN ?_ _) | (with_reducible refine cD ?_))); (case side2 => exact (Kd.R_reads' HO423.out).2.1); (case side3 => repeat (first | exact (Kd.R_reads' HO427.out).2.2 | (with_reducible refine cA ?_ _) | (with_reducible refine cN ?_ _) | (with_reducible refine cD ?_))); (case side4 => exact (Kd.R_reads' HO427.out).2.1); rintro e w' ⟨rfl, ⟨nd, rfl⟩⟩; obtain ⟨Ao263, co263, eo263⟩ := Kd.R_slice HO431.out; subst eo263; obtain ⟨Ao264, co264, eo264⟩ := Kd.R_slice HO435.out; subst eo264) | (go_at_call 17; (with_reducible refine (laws_yTexts.calls kj74 _ _ t428 _ _ t432 t438 _ ?side1 ?side2 ?side3 ?side4 A258.out).mono ?_); (case side1 => repeat (first | exact (Kd.R_reads' HO431.out).2.2 | (with_reducible refine cA ?_ _) | (with_reducible refine cN ?_ _) | (with_reducible refine cD ?_))); (case side2 => exact (Kd.R_reads' HO431.out).2.1); (case side3 => repeat (first | exact (Kd.R_reads' HO435.out).2.2 | (with_reducible refine cA ?_ _) | (with_reducible refine cN ?_ _) | (with_reducible refine cD ?_))); (case side4 => exact (Kd.R_reads' HO435.out).2.1); rintro e w' ⟨rfl, ⟨nd, rfl⟩⟩))
             go_meet
             case rel => exact ⟨_, (!t438), (by first | rfl | (simp; done) | (simp [*]; done)), H', ⟨by have := HJ3.out; have := HJ18.out; have := HJ74.out; first | omega | exact Nat.le_refl _⟩, ⟨by (with_reducible repeat (first | apply rA | apply rN | apply rD)); exact Kd.R_mono HO415.out (fun _ hk => ⟨hk.1.1.1.2, hk.1.2⟩)⟩, ⟨by (with_reducible repeat (first | apply rA | apply rN | apply rD)); exact Kd.R_mono HO423.out (fun _ hk => ⟨hk.1.1.1.1.2, hk.1.2⟩)⟩, ⟨by (with_reducible repeat (first | apply rA | apply rN | apply rD)); exact Kd.R_mono HO431.out (fun _ hk => ⟨hk.1.1.1.1.2, hk.1.1.2⟩)⟩, ⟨by repeat (first | (with_reducible first | exact HB.out | apply bA | apply bN | apply bD) | exact HB.out)⟩⟩
         ·replace c247 := Bool.eq_false_iff.mpr c247
          subst c247
          have H1 : (none) = some r := by rw [if_neg (show ¬ (false = true) by decide)] at H; exact H
          exact absurd H1 (by simp)
       ·replace c242 := Bool.eq_false_iff.mpr c242
        subst c242
        have H1 : (none) = some r := by rw [if_neg (show ¬ (false = true) by decide)] at H; exact H
        exact absurd H1 (by simp)
   case rest =>
    as_aux_lemma =>
     clear HC233
     try clear c1
     try clear c2
     try clear p2
     try clear c3
     try clear c4
     try clear c5
     try clear c5b0
     try clear c5b1
     try clear c6
     try clear p6
     try clear c7
     try clear c8
     try clear c9
     try clear c10
     try clear c11
     try clear c12
     try clear c13
     try clear c14
     try clear c15
     try clear c16
     try clear c19
     try clear c20
     try clear c21
     try clear c22
     try clear c23
     try clear c24
     try clear c25
     try clear c31
     try clear c31b0
     try clear c31b1
     try clear c31b2
     try clear c32
     try clear c32b0
     try clear c32b1
     try clear c33
     try clear c33b0
     try clear c33b1
     try clear c33b2
     try clear c34
     try clear c34b0
     try clear c34b1
     try clear c35
     try clear c35b0
     try clear c35b1
     try clear c35b2
     try clear c36
     try clear c36b0
     try clear c36b1
     try clear c37
     try clear c37b0
     try clear c37b1
     try clear c37b2
     try clear c38
     try clear c38b0
     try clear c38b1
     try clear c38b2
     try clear c39
     try clear c39b0
     try clear c39b1
     try clear c39b2
     try clear c41
     try clear c42
     try clear c42b0
     try clear c42b1
     try clear c42b2
     try clear c45
     try clear c45b0
     try clear c45b1
     try clear c47
     try clear c47b0
     try clear c47b1
     try clear c47b2
     try clear c51
     try clear c51b0
     try clear c51b1
     try clear c51b2
     try clear c55
     try clear c55b0
     try clear c55b1
     try clear c55b2
     try clear c59
     try clear c59b0
     try clear c59b1
     try clear c59b2
     try clear c63
     try clear c63b0
     try clear c63b1
     try clear c63b2
     try clear p64
     try clear c74
     try clear c76
     try clear c82
     try clear c84
     try clear c85
     try clear c86
     try clear c86b0
     try clear c86b1
     try clear c87
     try clear c88
     try clear c88b0
     try clear c88b1
     try clear c89
     try clear c91
     try clear c92
     try clear c92b0
     try clear c100
     try clear c100b0
     try clear c108
     try clear c108b0
     try clear c116
     try clear c116b0
     try clear c124
     try clear c125
     try clear c125b0
     try clear c125b1
     try clear c126
     try clear c126b0
     try clear c126b1
     try clear c127
     try clear c127b0
     try clear c127b1
     try clear c128
     try clear c128b0
     try clear c164
     try clear c164b0
     try clear c240
     try clear c240b0
     try clear c240b1
     try clear c240b2
     try clear c242
     try clear c243
     try clear c243b0
     try clear c243b1
     try clear c243b2
     try clear c247
     try clear c248
     try clear c248b0
     try clear c248b1
     try clear c248b2
     try clear c253
     try clear c253b0
     try clear c253b1
     try clear c253b2
     try clear p2
     try clear p6
     try clear p64
     obtain ⟨kq, x397_232, rfl, HA, HJ232, HO_40, HO_44, HO_48, HB⟩ := hcut
     cases kq with
     | zero => exact absurd HA.out (by simp [laws_FnKeysToldOfAll.j3])
     | succ kj232 =>
      have H := HA.out
      clear HA
      simp only [laws_FnKeysToldOfAll.j3] at H
      by_cases c271 : x397_232 = true
      ·subst c271
       have H1 : (none) = some r := by rw [if_pos rfl] at H; exact H
       exact absurd H1 (by simp)
      ·as_aux_lemma =>
        replace c271 := Bool.eq_false_iff.mpr c271
        subst c271
        have H1 : (if t413 = true then (laws_FnKeysToldOfAll.j4 kj232 a1 a2 t412 t420 t428 t429 (decide (a1 ≤ 5))) else (laws_FnKeysToldOfAll.j4 kj232 a1 a2 t412 t420 t428 t429 false)) = some r := by rw [if_neg (show ¬ (false = true) by decide)] at H; exact H
        clear H; have H := H1; clear H1
        have HC272 := aM H
        clear H
        go_upto_region 33 with (fail)
        go_cut [402] (fun v402 wc => ∃ (kq : Nat) (x402_271 : Bool), v402 = .bool x402_271 ∧ Aside0 (laws_FnKeysToldOfAll.j4 kq a1 a2 t412 t420 t428 t429 x402_271 = some r) ∧ Aside0 (kq ≤ kj232) ∧ Aside0 (Kd.R Kd.string 9 wc w.heap.size (fun k_ => some k_ ≠ (v422 : Value).ownBlock ∧ some k_ ≠ (v430 : Value).ownBlock) v414 t412) ∧ Aside0 (Kd.R Kd.string 9 wc w.heap.size (fun k_ => some k_ ≠ (v414 : Value).ownBlock ∧ some k_ ≠ (v430 : Value).ownBlock) v422 t420) ∧ Aside0 (Kd.R Kd.string 9 wc w.heap.size (fun k_ => some k_ ≠ (v414 : Value).ownBlock ∧ some k_ ≠ (v422 : Value).ownBlock) v430 t428) ∧ Aside0 (Below w.heap.size w wc))
        case first =>
         have H := HC272.out
         clear HC272
         by_cases c273 : t413 = true
         ·as_aux_lemma =>
           subst c273
           have H1 : (laws_FnKeysToldOfAll.j4 kj232 a1 a2 t412 t420 t428 t429 (decide (a1 ≤ 5))) = some r := by rw [if_pos rfl] at H; exact H
           clear H; have H := H1; clear H1
           have H' := aM H
           clear H
           go_wp2
           go_meet
           case rel => exact ⟨_, (decide (a1 ≤ 5)), (by first | rfl | (simp; done) | (simp [*]; done)), H', ⟨by have := HJ3.out; have := HJ18.out; have := HJ74.out; have := HJ232.out; first | omega | exact Nat.le_refl _⟩, ⟨by (with_reducible repeat (first | apply rA | apply rN | apply rD)); exact HO_40.out⟩, ⟨by (with_reducible repeat (first | apply rA | apply rN | apply rD)); exact HO_44.out⟩, ⟨by (with_reducible repeat (first | apply rA | apply rN | apply rD)); exact HO_48.out⟩, ⟨by repeat (first | (with_reducible first | exact HB.out | apply bA | apply bN | apply bD) | exact HB.out)⟩⟩
         ·as_aux_lemma =>
           replace c273 := Bool.eq_false_iff.mpr c273
           subst c273
           have H1 : (laws_FnKeysToldOfAll.j4 kj232 a1 a2 t412 t420 t428 t429 false) = some r := by rw [if_neg (show ¬ (false = true) by decide)] at H; exact H
           clear H; have H := H1; clear H1
           have H' := aM H
           clear H
           go_wp2
           go_meet
           case rel => exact ⟨_, (false), (by first | rfl | (simp; done) | (simp [*]; done)), H', ⟨by have := HJ3.out; have := HJ18.out; have := HJ74.out; have := HJ232.out; first | omega | exact Nat.le_refl _⟩, ⟨by (with_reducible repeat (first | apply rA | apply rN | apply rD)); exact HO_40.out⟩, ⟨by (with_reducible repeat (first | apply rA | apply rN | apply rD)); exact HO_44.out⟩, ⟨by (with_reducible repeat (first | apply rA | apply rN | apply rD)); exact HO_48.out⟩, ⟨by repeat (first | (with_reducible first | exact HB.out | apply bA | apply bN | apply bD) | exact HB.out)⟩⟩
        case rest =>
         rename_i za_ zb_ zc_ zd_ ze_ zf_ zg_ zh_ zi_ zj_ zk_ zl_ zm_ zn_ zo_ zp_ zq_ zr_ zs_ zt_ zu_ zv_ zw_ zx_ zy_ zz_ z0_ z1_ z2_ z3_ z4_ z5_ z6_ z7_ z8_ z9_ zba_ zbb_ zbc_ zbd_ zbe_ zbf_ zbg_ zbh_ zbi_ zbj_ zbk_ zbl_ zbm_ zbn_ zbo_ zbp_ zbq_ zbr_ zbs_ zbt_ zbu_ zbv_ zbw_ zbx_ zby_ zbz_ zb0_ zb1_ zb2_ zb3_ zb4_ zb5_ zb6_ zb7_ zb8_ zb9_ zca_ zcb_ zcc_ zcd_ zce_ zcf_ zcg_ zch_ zci_ zcj_ zck_ zcl_ zcm_ zcn_ zco_ zcp_ zcq_ zcr_ zcs_ zct_ zcu_ zcv_ zcw_ zcx_ zcy_ zcz_ zc0_ zc1_ zc2_ zc3_ zc4_ zc5_ zc6_ zc7_ zc8_ zc9_ zda_ zdb_ zdc_ zdd_ zde_ zdf_ zdg_ zdh_ zdi_ zdj_ zdk_ zdl_ zdm_ zdn_ zdo_ zdp_ zdq_ zdr_ zds_ zdt_ zdu_ zdv_ zdw_ zdx_ zdy_ zdz_ zd0_ zd1_ zd2_ zd3_ zd4_ zd5_ zd6_ zd7_ zd8_ zd9_ zea_ zeb_ zec_ zed_ zee_ zef_ zeg_ zeh_ zei_ zej_ zek_ zel_ zem_ zen_ zeo_ zep_ zeq_ zer_ zes_ zet_ zeu_ zev_ zew_ zex_ zey_ zez_ ze0_ ze1_ ze2_ ze3_ ze4_ ze5_ ze6_ ze7_ ze8_ ze9_ zfa_ zfb_ zfc_ zfd_ zfe_ zff_ zfg_ zfh_ zfi_ zfj_ zfk_ zfl_ zfm_ zfn_ zfo_ zfp_ zfq_ zfr_ zfs_ zft_ zfu_ zfv_ zfw_ zfx_ zfy_ zfz_ zf0_ zf1_ zf2_ zf3_ zf4_ zf5_ zf6_ zf7_ zf8_ zf9_ zga_ zgb_ zgc_ zgd_ zge_ zgf_ zgg_ zgh_ zgi_ zgj_ zgk_ zgl_ zgm_ zgn_ zgo_ zgp_ zgq_ zgr_ zgs_ zgt_ zgu_ zgv_ zgw_ zgx_ zgy_ zgz_ zg0_ zg1_ zg2_ zg3_ zg4_ zg5_ zg6_ zg7_ zg8_ zg9_ zha_ zhb_ zhc_ zhd_ zhe_ zhf_ zhg_ zhh_ zhi_ zhj_ zhk_ zhl_ zhm_ zhn_ zho_ zhp_ zhq_ zhr_ zhs_ zht_ zhu_ zhv_ zhw_ zhx_ zhy_ zhz_ zh0_ zh1_ zh2_ zh3_ zh4_ zh5_ zh6_ zh7_ zh8_ zh9_ zia_ zib_ zic_ zid_ zie_ zif_ zig_ zih_ zii_ zij_ zik_ zil_ zim_ zin_ zio_ zip_ ziq_ zir_ zis_ zit_ ziu_ ziv_ ziw_ zix_ ziy_ ziz_ zi0_ zi1_ zi2_ zi3_ zi4_ zi5_ zi6_ zi7_ zi8_ zi9_ zja_ zjb_ zjc_ zjd_ zje_ zjf_ zjg_ zjh_ zji_ zjj_ zjk_ zjl_ zjm_ zjn_ zjo_ zjp_ zjq_ zjr_ zjs_ zjt_ zju_ zjv_ zjw_ zjx_ zjy_ zjz_ zj0_ zj1_ zj2_ zj3_ zj4_ zj5_ zj6_ zj7_ zj8_ zj9_ zka_ zkb_ zkc_ zkd_ zke_ zkf_ zkg_ zkh_ zki_ zkj_ zkk_ zkl_ zkm_ zkn_ zko_ zkp_ zkq_ zkr_ zks_ zkt_ zku_ zkv_ zkw_ zkx_ zky_ zkz_ zk0_ zk1_ zk2_ zk3_ zk4_ zk5_ zk6_ zk7_ zk8_ zk9_ zla_ zlb_ zlc_ zld_ zle_ zlf_ zlg_ zlh_ zli_ zlj_ zlk_ zll_ zlm_ zln_ zlo_ zlp_ zlq_ zlr_ zls_ zlt_ zlu_ zlv_ zlw_ zlx_ zly_ zlz_ zl0_ zl1_ zl2_ zl3_ zl4_ zl5_ zl6_ zl7_ zl8_ zl9_ zma_ zmb_ zmc_ zmd_ zme_ zmf_ zmg_ zmh_ zmi_ zmj_ zmk_ zml_ zmm_ zmn_ zmo_ zmp_ zmq_ zmr_ zms_ zmt_ zmu_ zmv_ zmw_ zmx_ zmy_ zmz_ zm0_ zm1_ zm2_ zm3_ zm4_ zm5_ zm6_ zm7_ zm8_ zm9_ zna_ znb_ znc_ znd_ zne_ znf_ zng_ znh_ zni_ znj_ znk_ znl_ znm_ znn_ zno_ znp_ znq_ znr_ zns_ znt_ znu_ znv_ znw_ znx_ zny_ znz_ zn0_ zn1_ zn2_ zn3_ zn4_ zn5_ zn6_ zn7_ zn8_ zn9_ zoa_ zob_ zoc_ zod_ zoe_ zof_ zog_ zoh_ zoi_ zoj_ zok_ zol_ zom_ zon_ zoo_ zop_ zoq_ zor_ zos_ zot_ zou_ zov_ zow_ zox_ zoy_ zoz_ zo0_ zo1_ zo2_ zo3_ zo4_ zo5_ zo6_ zo7_ zo8_ zo9_ zpa_ zpb_ zpc_ zpd_ zpe_ zpf_ zpg_ zph_ zpi_ zpj_ zpk_ zpl_ zpm_ zpn_ zpo_ zpp_ zpq_ zpr_ zps_ zpt_ zpu_ zpv_ zpw_ zpx_ zpy_ zpz_ zp0_ zp1_ zp2_ zp3_ zp4_ zp5_ zp6_ zp7_ zp8_ zp9_ zqa_ zqb_ zqc_ zqd_ zqe_ zqf_ zqg_ zqh_ zqi_ zqj_ zqk_ zql_ zqm_ zqn_ zqo_ zqp_ zqq_ zqr_ zqs_ zqt_ zqu_ zqv_ zqw_ zqx_ zqy_ zqz_ zq0_ zq1_ zq2_ zq3_ zq4_ zq5_ zq6_ zq7_ zq8_ zq9_ zra_ zrb_ zrc_ zrd_ zre_ zrf_ zrg_ zrh_ zri_ zrj_ zrk_ zrl_ zrm_ zrn_ zro_ zrp_ zrq_ zrr_ zrs_ zrt_ zru_ zrv_ zrw_ zrx_ zry_ zrz_ zr0_ zr1_ zr2_ zr3_ zr4_ zr5_ zr6_ zr7_ zr8_ zr9_ zsa_ zsb_ zsc_ zsd_ zse_ zsf_ zsg_ zsh_ zsi_ zsj_ zsk_ zsl_ zsm_ zsn_ zso_ zsp_ zsq_ zsr_ zss_ zst_ zsu_ zsv_ zsw_ zsx_ zsy_ zsz_ zs0_ zs1_ zs2_ zs3_ zs4_ zs5_ zs6_ zs7_ zs8_ zs9_ zta_ ztb_ ztc_ ztd_ zte_ ztf_ ztg_ zth_ zti_ ztj_ ztk_ ztl_ ztm_ ztn_ zto_ ztp_ ztq_ ztr_ zts_ ztt_ ztu_ ztv_ ztw_ ztx_ zty_ ztz_ zt0_ zt1_ zt2_ zt3_ zt4_ zt5_ zt6_ zt7_ zt8_ zt9_ zua_ zub_ zuc_ zud_ zue_ zuf_ zug_ zuh_ zui_ zuj_ zuk_ zul_ zum_ zun_ zuo_ zup_ zuq_ zur_ zus_ zut_ zuu_ zuv_ zuw_ zux_ zuy_ zuz_ zu0_ zu1_ zu2_ zu3_ zu4_ zu5_ zu6_ zu7_ zu8_ zu9_ zva_ zvb_ zvc_ zvd_ zve_ zvf_ zvg_ zvh_ zvi_ zvj_ zvk_ zvl_ zvm_ zvn_ zvo_ zvp_ zvq_ zvr_ zvs_ zvt_ zvu_ zvv_ zvw_ zvx_ zvy_ zvz_ zv0_ zv1_ zv2_ zv3_ zv4_ zv5_ zv6_ zv7_ zv8_ zv9_ zwa_ zwb_ zwc_ zwd_ zwe_ zwf_ zwg_ zwh_ zwi_ zwj_ zwk_ zwl_ zwm_ zwn_ zwo_ zwp_ zwq_ zwr_ zws_ zwt_ zwu_ zwv_ zww_ zwx_ zwy_ zwz_ zw0_ zw1_ zw2_ zw3_ zw4_ zw5_ zw6_ zw7_ zw8_ zw9_ zxa_ zxb_ zxc_ zxd_ zxe_ zxf_ zxg_ zxh_ zxi_ zxj_ zxk_ zxl_ zxm_ zxn_ zxo_ zxp_ zxq_ zxr_ zxs_ zxt_ zxu_ zxv_ zxw_ zxx_ zxy_ zxz_ zx0_ zx1_ zx2_ zx3_ zx4_ zx5_ zx6_ zx7_ zx8_ zx9_ zya_ zyb_ zyc_ zyd_ zye_ zyf_ zyg_ zyh_ zyi_ zyj_ zyk_ zyl_ zym_ zyn_ zyo_ zyp_ zyq_ zyr_ zys_ zyt_ zyu_ zyv_ zyw_ zyx_ zyy_ zyz_ zy0_ zy1_ zy2_ zy3_ zy4_ zy5_ zy6_ zy7_ zy8_ zy9_ zza_ zzb_ zzc_ zzd_ zze_ zzf_ zzg_ zzh_ zzi_ zzj_ zzk_ zzl_ zzm_ zzn_ zzo_ zzp_ zzq_ zzr_ zzs_ zzt_ zzu_ zzv_ zzw_ zzx_ zzy_ zzz_ zz0_ zz1_ zz2_ zz3_ zz4_ zz5_ zz6_ zz7_ zz8_ zz9_ z0a_ z0b_ z0c_ z0d_ z0e_ z0f_ z0g_ z0h_ z0i_ z0j_ z0k_ z0l_ z0m_ z0n_ z0o_ z0p_ z0q_ z0r_ z0s_ z0t_ z0u_ z0v_ z0w_ z0x_ z0y_ z0z_ z00_ z01_ z02_ z03_ z04_ z05_ z06_ z07_ z08_ z09_ z1a_ z1b_ z1c_ z1d_ z1e_ z1f_ z1g_ z1h_ z1i_ z1j_ z1k_ z1l_ z1m_ z1n_ z1o_ z1p_ z1q_ z1r_ z1s_ z1t_ z1u_ z1v_ z1w_ z1x_ z1y_ z1z_ z10_ z11_ z12_ z13_ z14_ z15_ z16_ z17_ z18_ z19_ z2a_ z2b_ z2c_ z2d_ z2e_ z2f_ z2g_ z2h_ z2i_ z2j_ z2k_ z2l_ z2m_ z2n_ z2o_ z2p_ z2q_ z2r_ z2s_ z2t_ z2u_ z2v_ z2w_ z2x_ z2y_ z2z_ z20_ z21_ z22_ z23_ z24_ z25_ z26_ z27_ z28_ z29_ z3a_ z3b_ z3c_ z3d_ z3e_ z3f_ z3g_ z3h_ z3i_ z3j_ z3k_ z3l_ z3m_ z3n_ z3o_ z3p_ z3q_ z3r_ z3s_ z3t_ z3u_ z3v_ z3w_ z3x_ z3y_ z3z_ z30_ z31_ z32_ z33_ z34_ z35_ z36_ z37_ z38_ z39_ z4a_ z4b_ z4c_ z4d_ z4e_ z4f_ z4g_ z4h_ z4i_ z4j_ z4k_ z4l_ z4m_ z4n_ z4o_ z4p_ z4q_ z4r_ z4s_ z4t_ z4u_ z4v_ z4w_ z4x_ z4y_ z4z_ z40_ z41_ z42_ z43_ z44_ z45_ z46_ z47_ z48_ z49_ z5a_ z5b_ z5c_ z5d_ z5e_ z5f_ z5g_ z5h_ z5i_ z5j_ z5k_ z5l_ z5m_ z5n_ z5o_ z5p_ z5q_ z5r_ z5s_ z5t_ z5u_ z5v_ z5w_ z5x_ z5y_ z5z_ z50_ z51_ z52_ z53_ z54_ z55_ z56_ z57_ z58_ z59_ z6a_ z6b_ z6c_ z6d_ z6e_ z6f_ z6g_ z6h_ z6i_ z6j_ z6k_ z6l_ z6m_ z6n_ z6o_ z6p_ z6q_ z6r_ z6s_ z6t_ z6u_ z6v_ z6w_ z6x_ z6y_ z6z_ z60_ z61_ z62_ z63_ z64_ z65_ z66_ z67_ z68_ z69_ z7a_ z7b_ z7c_ z7d_ z7e_ z7f_ z7g_ z7h_ z7i_ z7j_ z7k_ z7l_ z7m_ z7n_ z7o_ z7p_ z7q_ z7r_ z7s_ z7t_ z7u_ z7v_ z7w_ z7x_ z7y_ z7z_ z70_ z71_ z72_ z73_ z74_ z75_ z76_ z77_ z78_ z79_ z8a_ z8b_ z8c_ z8d_ z8e_ z8f_ z8g_ z8h_ z8i_ z8j_ z8k_ z8l_ z8m_ z8n_ z8o_ z8p_ z8q_ z8r_ z8s_ z8t_ z8u_ z8v_ z8w_ z8x_ z8y_ z8z_ z80_ z81_ z82_ z83_ z84_ z85_ z86_ z87_ z88_ z89_ z9a_ z9b_ z9c_ z9d_ z9e_ z9f_ z9g_ z9h_ z9i_ z9j_ z9k_ z9l_ z9m_ z9n_ z9o_ z9p_ z9q_ z9r_ z9s_ z9t_ z9u_ z9v_ z9w_ z9x_ z9y_ z9z_ z90_ z91_ z92_ z93_ z94_ z95_ z96_ z97_ z98_ z99_ zbaa_ zbab_ zbac_ zbad_ zbae_ zbaf_ zbag_ zbah_ zbai_ zbaj_ zbak_ zbal_ zbam_ zban_ zbao_ zbap_ zbaq_ zbar_ zbas_ zbat_ zbau_ zbav_ zbaw_ zbax_ zbay_ zbaz_ zba0_ zba1_ zba2_ zba3_ zba4_ zba5_ zba6_ zba7_ zba8_ zba9_ zbba_ zbbb_ zbbc_ zbbd_ zbbe_ zbbf_ zbbg_ zbbh_ zbbi_ zbbj_ zbbk_ zbbl_ zbbm_ zbbn_ zbbo_ zbbp_ zbbq_ zbbr_ zbbs_ zbbt_ zbbu_ zbbv_ zbbw_ zbbx_ zbby_ zbbz_ zbb0_ zbb1_ zbb2_ zbb3_ zbb4_ zbb5_ zbb6_ zbb7_ zbb8_ zbb9_ zbca_ zbcb_ zbcc_ zbcd_ zbce_ zbcf_ zbcg_ zbch_ zbci_ zbcj_ zbck_ zbcl_ zbcm_ zbcn_ zbco_ zbcp_ zbcq_ zbcr_ zbcs_ zbct_ zbcu_ zbcv_ zbcw_ zbcx_ zbcy_ zbcz_ zbc0_ zbc1_ zbc2_ zbc3_ zbc4_ zbc5_ zbc6_ zbc7_ zbc8_ zbc9_ zbda_ zbdb_ zbdc_ zbdd_ zbde_ zbdf_ zbdg_ zbdh_ zbdi_ zbdj_ zbdk_ zbdl_ zbdm_ zbdn_ zbdo_ zbdp_ zbdq_ zbdr_ zbds_ zbdt_ zbdu_ zbdv_ zbdw_ zbdx_ zbdy_ zbdz_ zbd0_ zbd1_ zbd2_ zbd3_ zbd4_ zbd5_ zbd6_ zbd7_ zbd8_ zbd9_ zbea_ zbeb_ zbec_ zbed_ zbee_ zbef_ zbeg_ zbeh_ zbei_ zbej_ zbek_ zbel_ zbem_ zben_ zbeo_ zbep_ zbeq_ zber_ zbes_ zbet_ zbeu_ zbev_ zbew_ zbex_ zbey_ zbez_ zbe0_ zbe1_ zbe2_ zbe3_ zbe4_ zbe5_ zbe6_ zbe7_ zbe8_ zbe9_ zbfa_ zbfb_ zbfc_ zbfd_ zbfe_ zbff_ zbfg_ zbfh_ zbfi_ zbfj_ zbfk_ zbfl_ zbfm_ zbfn_ zbfo_ zbfp_ zbfq_ zbfr_ zbfs_ zbft_ zbfu_ zbfv_ zbfw_ zbfx_ zbfy_ zbfz_ zbf0_ zbf1_ zbf2_ zbf3_ zbf4_ zbf5_ zbf6_ zbf7_ zbf8_ zbf9_ zbga_ zbgb_ zbgc_ zbgd_ zbge_ zbgf_ zbgg_ zbgh_ zbgi_ zbgj_ zbgk_ zbgl_ zbgm_ zbgn_ zbgo_ zbgp_ zbgq_ zbgr_ zbgs_ zbgt_ zbgu_ zbgv_ zbgw_ zbgx_ zbgy_ zbgz_ zbg0_ zbg1_ zbg2_ zbg3_ zbg4_ zbg5_ zbg6_ zbg7_ zbg8_ zbg9_ zbha_ zbhb_ zbhc_ zbhd_ zbhe_ zbhf_ zbhg_ zbhh_ zbhi_ zbhj_ zbhk_ zbhl_ zbhm_ zbhn_ zbho_ zbhp_ zbhq_ zbhr_ zbhs_ zbht_ zbhu_ zbhv_ zbhw_ zbhx_ zbhy_ zbhz_ zbh0_ zbh1_ zbh2_ zbh3_ zbh4_ zbh5_ zbh6_ zbh7_ zbh8_ zbh9_ zbia_ zbib_ zbic_ zbid_ zbie_ zbif_ zbig_ zbih_ zbii_ zbij_ zbik_ zbil_ zbim_ zbin_ zbio_ zbip_ zbiq_ zbir_ zbis_ zbit_ zbiu_ zbiv_ zbiw_ zbix_ zbiy_ zbiz_ zbi0_ zbi1_ zbi2_ zbi3_ zbi4_ zbi5_ zbi6_ zbi7_ zbi8_ zbi9_ zbja_ zbjb_ zbjc_ zbjd_ zbje_ zbjf_ zbjg_ zbjh_ zbji_ zbjj_ zbjk_ zbjl_ zbjm_ zbjn_ zbjo_ zbjp_ zbjq_ zbjr_ zbjs_ zbjt_ zbju_ zbjv_ zbjw_ zbjx_ zbjy_ zbjz_ zbj0_ zbj1_ zbj2_ zbj3_ zbj4_ zbj5_ zbj6_ zbj7_ zbj8_ zbj9_ zbka_ zbkb_ zbkc_ zbkd_ zbke_ zbkf_ zbkg_ zbkh_ zbki_ zbkj_
         revert k A0 c0 l0 a1 a2 r w HR0 HC0 za_ zb_ zc_ zd_ ze_ zf_ zg_ zh_ zi_ zj_ zk_ zl_ zm_ zn_ zo_ zp_ zq_ zr_ zs_ zt_ zu_ zv_ zw_ zx_ zy_ zz_ z0_ z1_ z2_ z3_ z4_ z5_ z6_ z7_ z8_ z9_ zba_ zbb_ zbc_ zbd_ zbe_ zbf_ zbg_ zbh_ zbi_ zbj_ zbk_ zbl_ zbm_ zbn_ zbo_ zbp_ zbq_ zbr_ zbs_ zbt_ zbu_ zbv_ zbw_ zbx_ zby_ zbz_ zb0_ zb1_ zb2_ zb3_ zb4_ zb5_ zb6_ zb7_ zb8_ zb9_ zca_ zcb_ zcc_ zcd_ zce_ zcf_ zcg_ zch_ zci_ zcj_ zck_ zcl_ zcm_ zcn_ zco_ zcp_ zcq_ zcr_ zcs_ zct_ zcu_ zcv_ zcw_ zcx_ zcy_ zcz_ zc0_ zc1_ zc2_ zc3_ zc4_ zc5_ zc6_ zc7_ zc8_ zc9_ zda_ zdb_ zdc_ zdd_ zde_ zdf_ zdg_ zdh_ zdi_ zdj_ zdk_ zdl_ zdm_ zdn_ zdo_ zdp_ zdq_ zdr_ zds_ zdt_ zdu_ zdv_ zdw_ zdx_ zdy_ zdz_ zd0_ zd1_ zd2_ zd3_ zd4_ zd5_ zd6_ zd7_ zd8_ zd9_ zea_ zeb_ zec_ zed_ zee_ zef_ zeg_ zeh_ zei_ zej_ zek_ zel_ zem_ zen_ zeo_ zep_ zeq_ zer_ zes_ zet_ zeu_ zev_ zew_ zex_ zey_ zez_ ze0_ ze1_ ze2_ ze3_ ze4_ ze5_ ze6_ ze7_ ze8_ ze9_ zfa_ zfb_ zfc_ zfd_ zfe_ zff_ zfg_ zfh_ zfi_ zfj_ zfk_ zfl_ zfm_ zfn_ zfo_ zfp_ zfq_ zfr_ zfs_ zft_ zfu_ zfv_ zfw_ zfx_ zfy_ zfz_ zf0_ zf1_ zf2_ zf3_ zf4_ zf5_ zf6_ zf7_ zf8_ zf9_ zga_ zgb_ zgc_ zgd_ zge_ zgf_ zgg_ zgh_ zgi_ zgj_ zgk_ zgl_ zgm_ zgn_ zgo_ zgp_ zgq_ zgr_ zgs_ zgt_ zgu_ zgv_ zgw_ zgx_ zgy_ zgz_ zg0_ zg1_ zg2_ zg3_ zg4_ zg5_ zg6_ zg7_ zg8_ zg9_ zha_ zhb_ zhc_ zhd_ zhe_ zhf_ zhg_ zhh_ zhi_ zhj_ zhk_ zhl_ zhm_ zhn_ zho_ zhp_ zhq_ zhr_ zhs_ zht_ zhu_ zhv_ zhw_ zhx_ zhy_ zhz_ zh0_ zh1_ zh2_ zh3_ zh4_ zh5_ zh6_ zh7_ zh8_ zh9_ zia_ zib_ zic_ zid_ zie_ zif_ zig_ zih_ zii_ zij_ zik_ zil_ zim_ zin_ zio_ zip_ ziq_ zir_ zis_ zit_ ziu_ ziv_ ziw_ zix_ ziy_ ziz_ zi0_ zi1_ zi2_ zi3_ zi4_ zi5_ zi6_ zi7_ zi8_ zi9_ zja_ zjb_ zjc_ zjd_ zje_ zjf_ zjg_ zjh_ zji_ zjj_ zjk_ zjl_ zjm_ zjn_ zjo_ zjp_ zjq_ zjr_ zjs_ zjt_ zju_ zjv_ zjw_ zjx_ zjy_ zjz_ zj0_ zj1_ zj2_ zj3_ zj4_ zj5_ zj6_ zj7_ zj8_ zj9_ zka_ zkb_ zkc_ zkd_ zke_ zkf_ zkg_ zkh_ zki_ zkj_ zkk_ zkl_ zkm_ zkn_ zko_ zkp_ zkq_ zkr_ zks_ zkt_ zku_ zkv_ zkw_ zkx_ zky_ zkz_ zk0_ zk1_ zk2_ zk3_ zk4_ zk5_ zk6_ zk7_ zk8_ zk9_ zla_ zlb_ zlc_ zld_ zle_ zlf_ zlg_ zlh_ zli_ zlj_ zlk_ zll_ zlm_ zln_ zlo_ zlp_ zlq_ zlr_ zls_ zlt_ kj3 HJ3 t368 t369 A7 t370 t371 A8 t372 t373 A9 t374 t375 A10 t376 t377 A11 t378 t379 A12 t380 t381 A13 t382 t383 A14 t384 t385 A15 t388 t389 A16 t392 t393 A17 t394 t395 A18 w20 w21 w22 w23 w24 w25 w26 w27 w28 v386 w29 v390 w30 HO387 HO391 zlu_ nd zlv_ zlw_ zlx_ zly_ zlz_ zl0_ zl1_ zl2_ zl3_ zl4_ zl5_ zl6_ zl7_ zl8_ zl9_ zma_ zmb_ zmc_ zmd_ zme_ zmf_ zmg_ zmh_ zmi_ zmj_ zmk_ zml_ zmm_ zmn_ zmo_ zmp_ zmq_ zmr_ zms_ zmt_ zmu_ zmv_ zmw_ zmx_ zmy_ zmz_ zm0_ zm1_ zm2_ zm3_ zm4_ zm5_ zm6_ zm7_ zm8_ zm9_ zna_ znb_ znc_ znd_ zne_ znf_ zng_ znh_ zni_ znj_ znk_ znl_ znm_ znn_ zno_ znp_ znq_ znr_ zns_ znt_ znu_ znv_ znw_ znx_ zny_ znz_ zn0_ zn1_ zn2_ zn3_ zn4_ zn5_ zn6_ zn7_ zn8_ zn9_ zoa_ zob_ zoc_ zod_ zoe_ zof_ zog_ zoh_ zoi_ zoj_ zok_ zol_ zom_ zon_ zoo_ zop_ zoq_ zor_ zos_ zot_ zou_ zov_ zow_ zox_ zoy_ zoz_ zo0_ zo1_ zo2_ zo3_ zo4_ zo5_ zo6_ zo7_ zo8_ zo9_ zpa_ zpb_ zpc_ zpd_ zpe_ zpf_ zpg_ zph_ zpi_ zpj_ zpk_ zpl_ zpm_ zpn_ zpo_ zpp_ zpq_ zpr_ zps_ zpt_ zpu_ zpv_ zpw_ zpx_ zpy_ zpz_ zp0_ zp1_ zp2_ zp3_ zp4_ zp5_ zp6_ zp7_ zp8_ zp9_ zqa_ zqb_ zqc_ zqd_ zqe_ zqf_ zqg_ zqh_ zqi_ zqj_ zqk_ zql_ zqm_ zqn_ zqo_ zqp_ zqq_ zqr_ zqs_ zqt_ zqu_ zqv_ zqw_ zqx_ zqy_ zqz_ zq0_ zq1_ zq2_ zq3_ zq4_ zq5_ zq6_ zq7_ zq8_ zq9_ zra_ zrb_ zrc_ zrd_ zre_ zrf_ zrg_ zrh_ zri_ zrj_ zrk_ zrl_ zrm_ zrn_ zro_ zrp_ zrq_ zrr_ zrs_ zrt_ zru_ zrv_ zrw_ zrx_ zry_ zrz_ zr0_ zr1_ zr2_ zr3_ zr4_ zr5_ zr6_ zr7_ zr8_ zr9_ zsa_ zsb_ zsc_ zsd_ zse_ zsf_ zsg_ zsh_ zsi_ zsj_ zsk_ zsl_ zsm_ zsn_ zso_ zsp_ zsq_ zsr_ zss_ zst_ zsu_ zsv_ zsw_ zsx_ zsy_ zsz_ zs0_ zs1_ zs2_ zs3_ zs4_ zs5_ zs6_ zs7_ zs8_ zs9_ zta_ ztb_ ztc_ ztd_ zte_ ztf_ ztg_ zth_ zti_ ztj_ ztk_ ztl_ ztm_ ztn_ zto_ ztp_ ztq_ ztr_ zts_ ztt_ ztu_ ztv_ ztw_ ztx_ zty_ ztz_ zt0_ zt1_ zt2_ zt3_ zt4_ zt5_ zt6_ zt7_ zt8_ zt9_ zua_ zub_ zuc_ zud_ zue_ zuf_ zug_ zuh_ zui_ zuj_ zuk_ zul_ zum_ zun_ zuo_ zup_ zuq_ zur_ zus_ zut_ zuu_ zuv_ zuw_ zux_ zuy_ zuz_ zu0_ zu1_ zu2_ zu3_ zu4_ zu5_ zu6_ zu7_ zu8_ zu9_ zva_ zvb_ zvc_ zvd_ zve_ zvf_ zvg_ zvh_ zvi_ zvj_ zvk_ zvl_ zvm_ zvn_ zvo_ zvp_ zvq_ zvr_ zvs_ zvt_ zvu_ zvv_ zvw_ zvx_ zvy_ zvz_ zv0_ zv1_ zv2_ zv3_ zv4_ zv5_ zv6_ zv7_ zv8_ zv9_ zwa_ zwb_ zwc_ zwd_ zwe_ zwf_ zwg_ zwh_ zwi_ zwj_ zwk_ zwl_ zwm_ zwn_ zwo_ zwp_ zwq_ zwr_ zws_ zwt_ zwu_ zwv_ zww_ zwx_ zwy_ zwz_ zw0_ zw1_ zw2_ zw3_ zw4_ zw5_ zw6_ zw7_ zw8_ zw9_ zxa_ zxb_ zxc_ HO_23 zxd_ kj18 HJ18 zxe_ u6 u31 u32 u33 u34 u35 u36 u37 u38 u39 zxf_ zxg_ zxh_ zxi_ zxj_ zxk_ zxl_ zxm_ zxn_ zxo_ zxp_ zxq_ zxr_ zxs_ zxt_ zxu_ zxv_ zxw_ zxx_ zxy_ zxz_ zx0_ zx1_ zx2_ zx3_ zx4_ zx5_ zx6_ zx7_ zx8_ zx9_ zya_ zyb_ zyc_ zyd_ zye_ zyf_ zyg_ zyh_ zyi_ zyj_ zyk_ zyl_ zym_ zyn_ zyo_ zyp_ zyq_ zyr_ zys_ zyt_ zyu_ zyv_ zyw_ zyx_ zyy_ zyz_ zy0_ zy1_ zy2_ zy3_ zy4_ zy5_ zy6_ zy7_ zy8_ zy9_ zza_ zzb_ zzc_ zzd_ zze_ zzf_ zzg_ zzh_ zzi_ zzj_ zzk_ zzl_ zzm_ zzn_ zzo_ zzp_ zzq_ zzr_ zzs_ zzt_ zzu_ zzv_ zzw_ zzx_ zzy_ zzz_ zz0_ zz1_ zz2_ zz3_ zz4_ zz5_ zz6_ zz7_ zz8_ zz9_ z0a_ z0b_ z0c_ z0d_ z0e_ z0f_ z0g_ z0h_ z0i_ z0j_ z0k_ z0l_ z0m_ z0n_ z0o_ z0p_ z0q_ z0r_ z0s_ z0t_ z0u_ z0v_ z0w_ z0x_ z0y_ z0z_ z00_ z01_ z02_ z03_ z04_ z05_ z06_ z07_ z08_ z09_ z1a_ z1b_ z1c_ z1d_ z1e_ z1f_ z1g_ z1h_ z1i_ z1j_ z1k_ z1l_ z1m_ z1n_ z1o_ z1p_ z1q_ z1r_ z1s_ z1t_ z1u_ z1v_ z1w_ z1x_ z1y_ z1z_ z10_ z11_ z12_ z13_ z14_ z15_ z16_ z17_ z18_ z19_ z2a_ z2b_ z2c_ z2d_ z2e_ z2f_ z2g_ z2h_ z2i_ z2j_ z2k_ z2l_ z2m_ z2n_ z2o_ z2p_ z2q_ z2r_ z2s_ z2t_ z2u_ z2v_ z2w_ z2x_ z2y_ z2z_ z20_ z21_ z22_ z23_ z24_ z25_ z26_ z27_ z28_ z29_ z3a_ z3b_ z3c_ z3d_ z3e_ z3f_ z3g_ z3h_ z3i_ z3j_ z3k_ z3l_ z3m_ z3n_ z3o_ z3p_ z3q_ z3r_ z3s_ z3t_ z3u_ z3v_ z3w_ z3x_ z3y_ z3z_ z30_ z31_ z32_ z33_ z34_ z35_ z36_ z37_ z38_ z39_ z4a_ z4b_ z4c_ z4d_ z4e_ z4f_ z4g_ z4h_ z4i_ z4j_ z4k_ z4l_ z4m_ z4n_ z4o_ z4p_ z4q_ z4r_ z4s_ z4t_ z4u_ z4v_ z4w_ z4x_ z4y_ z4z_ z40_ z41_ z42_ z43_ z44_ z45_ z46_ z47_ z48_ z49_ z5a_ z5b_ z5c_ z5d_ z5e_ z5f_ z5g_ z5h_ z5i_ z5j_ z5k_ z5l_ z5m_ z5n_ z5o_ z5p_ z5q_ z5r_ z5s_ z5t_ z5u_ z5v_ z5w_ z5x_ z5y_ z5z_ z50_ z51_ z52_ z53_ z54_ z55_ z56_ z57_ z58_ z59_ z6a_ z6b_ z6c_ z6d_ z6e_ z6f_ z6g_ z6h_ z6i_ z6j_ z6k_ z6l_ z6m_ z6n_ z6o_ z6p_ z6q_ z6r_ z6s_ z6t_ z6u_ z6v_ z6w_ z6x_ z6y_ z6z_ z60_ z61_ z62_ z63_ z64_ z65_ z66_ z67_ z68_ z69_ z7a_ z7b_ z7c_ z7d_ z7e_ z7f_ z7g_ z7h_ z7i_ z7j_ z7k_ z7l_ z7m_ z7n_ z7o_ z7p_ z7q_ z7r_ z7s_ z7t_ z7u_ z7v_ z7w_ z7x_ z7y_ z7z_ z70_ z71_ z72_ z73_ z74_ z75_ z76_ z77_ z78_ z79_ z8a_ z8b_ z8c_ z8d_ z8e_ z8f_ z8g_ z8h_ z8i_ z8j_ z8k_ z8l_ z8m_ z8n_ z8o_ z8p_ z8q_ z8r_ z8s_ z8t_ z8u_ z8v_ z8w_ kj74 HJ74 t412 t413 A227 t416 t417 A228 t420 t421 A229 t424 t425 A230 t428 t429 A231 t432 t433 A232 w234 v414 w235 v418 w236 v422 w237 v426 w238 v430 w239 v434 HO415 HO419 HO423 HO427 HO431 HO435 z8x_ z8y_ z8z_ z80_ z81_ z82_ z83_ z84_ z85_ z86_ z87_ z88_ z89_ z9a_ z9b_ z9c_ z9d_ z9e_ z9f_ z9g_ z9h_ z9i_ z9j_ z9k_ z9l_ z9m_ z9n_ z9o_ z9p_ z9q_ z9r_ z9s_ z9t_ z9u_ z9v_ z9w_ z9x_ z9y_ z9z_ z90_ z91_ z92_ z93_ z94_ z95_ z96_ z97_ z98_ z99_ zbaa_ zbab_ zbac_ zbad_ zbae_ zbaf_ zbag_ zbah_ zbai_ zbaj_ zbak_ zbal_ zbam_ zban_ zbao_ zbap_ zbaq_ zbar_ zbas_ zbat_ zbau_ zbav_ zbaw_ zbax_ zbay_ zbaz_ zba0_ zba1_ zba2_ zba3_ zba4_ zba5_ zba6_ zba7_ zba8_ zba9_ zbba_ zbbb_ zbbc_ zbbd_ zbbe_ zbbf_ zbbg_ zbbh_ zbbi_ zbbj_ zbbk_ zbbl_ zbbm_ zbbn_ zbbo_ zbbp_ zbbq_ zbbr_ zbbs_ zbbt_ zbbu_ zbbv_ zbbw_ zbbx_ zbby_ zbbz_ zbb0_ zbb1_ zbb2_ zbb3_ zbb4_ zbb5_ zbb6_ zbb7_ zbb8_ zbb9_ zbca_ zbcb_ zbcc_ zbcd_ zbce_ zbcf_ zbcg_ zbch_ zbci_ zbcj_ zbck_ zbcl_ zbcm_ zbcn_ zbco_ zbcp_ zbcq_ zbcr_ zbcs_ zbct_ zbcu_ zbcv_ zbcw_ zbcx_ zbcy_ zbcz_ zbc0_ zbc1_ zbc2_ zbc3_ zbc4_ zbc5_ zbc6_ zbc7_ zbc8_ zbc9_ zbda_ zbdb_ zbdc_ zbdd_ zbde_ zbdf_ zbdg_ zbdh_ zbdi_ zbdj_ zbdk_ zbdl_ zbdm_ zbdn_ zbdo_ zbdp_ zbdq_ zbdr_ zbds_ zbdt_ zbdu_ zbdv_ zbdw_ zbdx_ zbdy_ zbdz_ zbd0_ zbd1_ zbd2_ zbd3_ zbd4_ zbd5_ zbd6_ zbd7_ zbd8_ zbd9_ zbea_ zbeb_ zbec_ zbed_ zbee_ zbef_ zbeg_ zbeh_ zbei_ zbej_ zbek_ zbel_ zbem_ zben_ zbeo_ zbep_ zbeq_ zber_ zbes_ zbet_ zbeu_ zbev_ zbew_ zbex_ zbey_ zbez_ zbe0_ zbe1_ zbe2_ zbe3_ zbe4_ zbe5_ zbe6_ zbe7_ zbe8_ zbe9_ zbfa_ zbfb_ zbfc_ zbfd_ zbfe_ zbff_ zbfg_ zbfh_ zbfi_ zbfj_ zbfk_ zbfl_ zbfm_ zbfn_ zbfo_ zbfp_ zbfq_ zbfr_ zbfs_ zbft_ zbfu_ zbfv_ zbfw_ zbfx_ zbfy_ zbfz_ zbf0_ zbf1_ zbf2_ zbf3_ zbf4_ zbf5_ zbf6_ zbf7_ zbf8_ zbf9_ zbga_ zbgb_ zbgc_ zbgd_ zbge_ zbgf_ zbgg_ zbgh_ zbgi_ zbgj_ zbgk_ zbgl_ zbgm_ zbgn_ zbgo_ zbgp_ zbgq_ zbgr_ zbgs_ zbgt_ zbgu_ zbgv_ zbgw_ zbgx_ zbgy_ zbgz_ zbg0_ zbg1_ zbg2_ zbg3_ zbg4_ zbg5_ zbg6_ zbg7_ zbg8_ zbg9_ zbha_ zbhb_ zbhc_ zbhd_ zbhe_ zbhf_ zbhg_ zbhh_ zbhi_ zbhj_ zbhk_ zbhl_ zbhm_ zbhn_ zbho_ zbhp_ zbhq_ zbhr_ zbhs_ zbht_ zbhu_ zbhv_ zbhw_ zbhx_ zbhy_ zbhz_ zbh0_ zbh1_ zbh2_ zbh3_ zbh4_ zbh5_ zbh6_ zbh7_ zbh8_ zbh9_ zbia_ zbib_ zbic_ zbid_ zbie_ zbif_ zbig_ zbih_ zbii_ zbij_ zbik_ zbil_ zbim_ zbin_ zbio_ zbip_ zbiq_ zbir_ zbis_ zbit_ zbiu_ zbiv_ zbiw_ zbix_ zbiy_ zbiz_ zbi0_ zbi1_ zbi2_ zbi3_ zbi4_ zbi5_ zbi6_ zbi7_ zbi8_ zbi9_ zbja_ zbjb_ zbjc_ zbjd_ zbje_ zbjf_ zbjg_ zbjh_ zbji_ zbjj_ zbjk_ zbjl_ zbjm_ zbjn_ zbjo_ zbjp_ zbjq_ zbjr_ zbjs_ zbjt_ zbju_ zbjv_ zbjw_ zbjx_ zbjy_ zbjz_ zbj0_ zbj1_ zbj2_ zbj3_ zbj4_ zbj5_ zbj6_ zbj7_ zbj8_ zbj9_ zbka_ zbkb_ zbkc_ zbkd_ zbke_ zbkf_ HO_40 HO_44 HO_48 HB kj232 HJ232 HC272 zbkg_ zbkh_ zbki_ zbkj_ wc u65 u66 u67 u68 u69 u70 u71 u72 u73 u74 u75 u76 u77 u78 u79 u80 u81 u82 u83 u84 u85 u86 u87 u88 u89 u90 u91 u92 u93 u94 u95 u96 u97 u98 u99 u100 u101 u102 u103 u104 u105 u106 u107 u108 u109 u110 u111 u112 u113 u114 u115 u116 u117 u118 u119 u120 u121 u122 u123 u124 u125 u126 u127 u128 u129 u130 u131 u132 u133 u134 u135 u136 u137 u138 u139 u140 u141 u142 u143 u144 u145 u146 u147 u148 u149 u150 u151 u152 u153 u154 u155 u156 u157 u158 u159 u160 u161 u162 u163 u164 u165 u166 u167 u168 u169 u170 u171 u172 u173 u174 u175 u176 u177 u178 u179 u180 u181 u182 u183 u184 u185 u186 u187 u188 u189 u190 u191 u192 u193 u194 u195 u196 u197 u198 u199 u200 u201 u202 u203 u204 u205 u206 u207 u208 u209 u210 u211 u212 u213 u214 u215 u216 u217 u218 u219 u220 u221 u222 u223 u224 u225 u226 u227 u228 u229 u230 u231 u232 u233 u234 u235 u236 u237 u238 u239 u240 u241 u242 u243 u244 u245 u246 u247 u248 u249 u250 u251 u252 u253 u254 u255 u256 u257 u258 u259 u260 u261 u262 u263 u264 u265 u266 u267 u268 u269 u270 u271 u272 u273 u274 u275 u276 u277 u278 u279 u280 u281 u282 u283 u284 u285 u286 u287 u288 u289 u290 u291 u292 u293 u294 u295 u296 u297 u298 u299 u300 u301 u302 u303 u304 u305 u306 u307 u308 u309 u310 u311 u312 u313 u314 u315 u316 u317 u318 u319 u320 u321 u322 u323 u324 u325 u326 u327 u328 u329 u330 u331 u332 u333 u334 u335 u336 u337 u338 u339 u340 u341 u342 u343 u344 u345 u346 u347 u348 u349 u350 u351 u352 u353 u354 u355 u356 u357 u358 u359 u360 u361 u362 u363 u364 u365 u366 u367 u368 u369 u370 u371 u372 u373 u374 u375 u376 u377 u378 u379 u380 u381 u382 u383 u384 u385 u386 u387 u388 u389 u390 u391 u392 u393 u394 u395 u396 u397 u398 u399 u400 u401 u402 u403 u404 u405 u406 u407 u408 u409 u410 u411 u412 u413 u414 u415 u416 u417 u418 u419 u420 u421 u422 u423 u424 u425 u426 u427 u428 u429 u430 u431 u432 u433 u434 u435 u436 u437 u438 u439 u440 u441 u442 u443 u444 u445 u446 u447 u448 u449 u450 u451 u452 u453 u454 u455 u456 u457 u458 u459 u460 u461 u462 u463 u464 u465 u466 u467 u468 u469 u470 u471 u472 u473 u474 u475 u476 u477 u478 hcut
         exact hrest_.out
end Go.Proofs.YtbmbehkdidlolaaGreatDoor.PT
