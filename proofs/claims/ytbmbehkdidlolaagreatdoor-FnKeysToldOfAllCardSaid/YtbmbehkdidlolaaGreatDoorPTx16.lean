/-
  The law's walk, part 2.
-/
import Derived.Test.YtbmbehkdidlolaaGreatDoorPTx15
namespace Go.Proofs.YtbmbehkdidlolaaGreatDoor.PT
open Go.RowKit Go.Proofs.YtbmbehkdidlolaaGreatDoorW.PrintWords Go.Proofs.YtbmbehkdidlolaaGreatDoorW.PrintLast Go.Proofs.YtbmbehkdidlolaaGreatDoorW.PrintMore
attribute [local go_sem] max2_int min2_int max_two min_two max_three min_three max_four min_four   -- for this text's walks alone
set_option linter.unusedVariables false
set_option linter.unusedSimpArgs false

set_option maxHeartbeats 40000000 in
set_option maxRecDepth 100000 in
noncomputable def laws_FnKeysToldOfAll.part2 : { G_ : Prop // Held_ G_ → (laws_FnKeysToldOfAll.part1.1) } := by
 apply Subtype.mk
 case property =>
  intro hrest_
  intro k A0 c0 l0 a1 a2 r w HR0 HC0 _ _ _ _ _ _ _ _ _ _ _ _ _ _ _ _ _ _ _ _ _ _ _ _ _ _ _ _ _ _ _ _ _ _ _ _ _ _ _ _ _ _ _ _ _ _ _ _ _ _ _ _ _ _ _ _ _ _ _ _ _ _ _ _ _ _ _ _ _ _ _ _ _ _ _ _ _ _ _ _ _ _ _ _ _ _ _ _ _ _ _ _ _ _ _ _ _ _ _ _ _ _ _ _ _ _ _ _ _ _ _ _ _ _ _ _ _ _ _ _ _ _ _ _ _ _ _ _ _ _ _ _ _ _ _ _ _ _ _ _ _ _ _ _ _ _ _ _ _ _ _ _ _ _ _ _ _ _ _ _ _ _ _ _ _ _ _ _ _ _ _ _ _ _ _ _ _ _ _ _ _ _ _ _ _ _ _ _ _ _ _ _ _ _ _ _ _ _ _ _ _ _ _ _ _ _ _ _ _ _ _ _ _ _ _ _ _ _ _ _ _ _ _ _ _ _ _ _ _ _ _ _ _ _ _ _ _ _ _ _ _ _ _ _ _ _ _ _ _ _ _ _ _ _ _ _ _ _ _ _ _ _ _ _ _ _ _ _ _ _ _ _ _ _ _ _ _ _ _ _ _ _ _ _ _ _ _ _ _ _ _ _ _ _ _ _ _ _ _ _ _ _ _ _ _ _ _ _ _ _ _ _ _ _ _ _ _ _ _ _ _ _ _ _ _ _ _ _ _ _ _ _ _ _ _ _ _ _ _ _ _ _ _ _ _ _ _ _ _ _ _ _ _ _ _ _ _ _ _ _ _ _ _ _ _ _ _ _ _ _ _ _ _ _ _ _ _ _ _ _ _ _ _ _ _ _ _ _ _ _ _ _ _ _ _ _ _ _ _ _ _ _ _ _ _ _ _ _ _ _ _ _ _ _ _ _ kj3 HJ3 t368 t369 A7 t370 t371 A8 t372 t373 A9 t374 t375 A10 t376 t377 A11 t378 t379 A12 t380 t381 A13 t382 t383 A14 t384 t385 A15 t388 t389 A16 t392 t393 A17 t394 t395 A18 HC19 w20 w21 w22 w23 w24 w25 w26 w27 w28 v386 w29 v390 w30 HO387 HO391 HB nd _ _ _ _ wc u65 u66 u67 u68 u69 u70 u71 u72 u73 u74 u75 u76 u77 u78 u79 u80 u81 u82 u83 u84 u85 u86 u87 u88 u89 u90 u91 u92 u93 u94 u95 u96 u97 u98 u99 u100 u101 u102 u103 u104 u105 u106 u107 u108 u109 u110 u111 u112 u113 u114 u115 u116 u117 u118 u119 u120 u121 u122 u123 u124 u125 u126 u127 u128 u129 u130 u131 u132 u133 u134 u135 u136 u137 u138 u139 u140 u141 u142 u143 u144 u145 u146 u147 u148 u149 u150 u151 u152 u153 u154 u155 u156 u157 u158 u159 u160 u161 u162 u163 u164 u165 u166 u167 u168 u169 u170 u171 u172 u173 u174 u175 u176 u177 u178 u179 u180 u181 u182 u183 u184 u185 u186 u187 u188 u189 u190 u191 u192 u193 u194 u195 u196 u197 u198 u199 u200 u201 u202 u203 u204 u205 u206 u207 u208 u209 u210 u211 u212 u213 u214 u215 u216 u217 u218 u219 u220 u221 u222 u223 u224 u225 u226 u227 u228 u229 u230 u231 u232 u233 u234 u235 u236 u237 u238 u239 u240 u241 u242 u243 u244 u245 u246 u247 u248 u249 u250 u251 u252 u253 u254 u255 u256 u257 u258 u259 u260 u261 u262 u263 u264 u265 u266 u267 u268 u269 u270 u271 u272 u273 u274 u275 u276 u277 u278 u279 u280 u281 u282 u283 u284 u285 u286 u287 u288 u289 u290 u291 u292 u293 u294 u295 u296 u297 u298 u299 u300 u301 u302 u303 u304 u305 u306 u307 u308 u309 u310 u311 u312 u313 u314 u315 u316 u317 u318 u319 u320 u321 u322 u323 u324 u325 u326 u327 u328 u329 u330 u331 u332 u333 u334 u335 u336 u337 u338 u339 u340 u341 u342 u343 u344 u345 u346 u347 u348 u349 u350 u351 u352 u353 u354 u355 u356 u357 u358 u359 u360 u361 u362 u363 u364 u365 u366 u367 u368 u369 u370 u371 u372 u373 u374 u375 u376 u377 u378 u379 u380 u381 u382 u383 u384 u385 u386 u387 u388 u389 u390 u391 u392 u393 u394 u395 u396 u397 u398 u399 u400 u401 u402 u403 u404 u405 u406 u407 u408 u409 u410 u411 u412 u413 u414 u415 u416 u417 u418 u419 u420 u421 u422 u423 u424 u425 u426 u427 u428 u429 u430 u431 u432 u433 u434 u435 u436 u437 u438 u439 u440 u441 u442 u443 u444 u445 u446 u447 u448 u449 u450 u451 u452 u453 u454 u455 u456 u457 u458 u459 u460 u461 u462 u463 u464 u465 u466 u467 u468 u469 u470 u471 u472 u473 u474 u475 u476 u477 u478 hcut
  clear HC19
  try clear c1
  try clear p2
  try clear c3
  try clear c4
  try clear c5
  try clear c5b0
  try clear c5b1
  try clear c6
  try clear c7
  try clear c8
  try clear c9
  try clear c10
  try clear c11
  try clear c12
  try clear c13
  try clear c14
  try clear c15
  try clear c16
  try clear c31
  try clear c31b0
  try clear c31b1
  try clear c31b2
  try clear c32
  try clear c32b0
  try clear c32b1
  try clear c33
  try clear c33b0
  try clear c33b1
  try clear c33b2
  try clear c34
  try clear c34b0
  try clear c34b1
  try clear c35
  try clear c35b0
  try clear c35b1
  try clear c35b2
  try clear c36
  try clear c36b0
  try clear c36b1
  try clear c37
  try clear c37b0
  try clear c37b1
  try clear c37b2
  try clear c38
  try clear c38b0
  try clear c38b1
  try clear c38b2
  try clear c39
  try clear c39b0
  try clear c39b1
  try clear c39b2
  try clear c41
  try clear c42
  try clear c42b0
  try clear c42b1
  try clear c42b2
  try clear c45
  try clear c45b0
  try clear c45b1
  try clear c47
  try clear c47b0
  try clear c47b1
  try clear c47b2
  try clear c51
  try clear c51b0
  try clear c51b1
  try clear c51b2
  try clear c55
  try clear c55b0
  try clear c55b1
  try clear c55b2
  try clear c59
  try clear c59b0
  try clear c59b1
  try clear c59b2
  try clear c63
  try clear c63b0
  try clear c63b1
  try clear c63b2
  try clear p2
  obtain ⟨kq, x222_18, rfl, HA, HJ18, HO_23, HB⟩ := hcut
  cases kq with
  | zero => exact absurd HA.out (by simp [laws_FnKeysToldOfAll.j1])
  | succ kj18 =>
   have H := HA.out
   clear HA
   simp only [laws_FnKeysToldOfAll.j1] at H
   by_cases c74 : x222_18 = true
   ·subst c74
    have H1 : (none) = some r := by rw [if_pos rfl] at H; exact H
    exact absurd H1 (by simp)
   ·as_aux_lemma =>
     replace c74 := Bool.eq_false_iff.mpr c74
     subst c74
     have H1 : (if t369 = true then ((impl_TurnKeys.f kj18 t384).bind fun bt398 => ((impl_LongestByKeys.f kj18 t384).bind fun bt402 => ((impl_PartsByKeys.f kj18 t384).bind fun bt404 => ((impl_ParseKeys.f kj18 t392).bind fun bt406 => (if bt398.2 = true then ((laws_yTexts.f kj18 bt398.1 l0).bind fun t410 => (if t410 = true then (if bt402.2 = true then (if bt402.1 = t368 then (if bt404.2 = true then (if bt404.1 = t372 then (if bt406.2 = true then ((laws_yTexts.f kj18 bt406.1 l0).bind fun t411 => (if t411 = true then (if t372 < 1 then (none) else (if t372 > (shl .i64 1 (l0.length : Int)) then (none) else (if t376 < (wrap64 ((shl .i64 1 (l0.length : Int)) - t372)) then (none) else (if t376 > (wrap64 (Int.tdiv (wrap64 ((shl .i64 1 (l0.length : Int)) * (l0.length : Int))) 2)) then (none) else (if t380 = true then (if t368 = (wrap64 ((shl .i64 1 (l0.length : Int)) - 1)) then (if t372 = 1 then (if t376 = (wrap64 ((shl .i64 1 (l0.length : Int)) - 1)) then (if t368 ≥ (shl .i64 1 (l0.length : Int)) then (none) else (laws_FnKeysToldOfAll.j2 kj18 a1 a2)) else (none)) else (none)) else (none)) else (if t368 ≥ (shl .i64 1 (l0.length : Int)) then (none) else (laws_FnKeysToldOfAll.j2 kj18 a1 a2))))))) else (none))) else (none)) else (none)) else (none)) else (none)) else (none)) else (none))) else (none)))))) else (laws_FnKeysToldOfAll.j2 kj18 a1 a2)) = some r := by rw [if_neg (show ¬ (false = true) by decide)] at H; exact H
     clear H; have H := H1; clear H1
     have HC75 := aM H
     clear H
     go_upto_if 223 with (fail)
     go_cut [] (fun wc => ∃ (kq : Nat), Aside0 (laws_FnKeysToldOfAll.j2 kq a1 a2 = some r) ∧ Aside0 (kq ≤ kj18) ∧ Aside0 (Below w.heap.size w wc))
     case first =>
      as_aux_lemma =>
       have H := HC75.out
       clear HC75
       by_cases c76 : t369 = true
       ·as_aux_lemma =>
         subst c76
         have H1 : ((impl_TurnKeys.f kj18 t384).bind fun bt398 => ((impl_LongestByKeys.f kj18 t384).bind fun bt402 => ((impl_PartsByKeys.f kj18 t384).bind fun bt404 => ((impl_ParseKeys.f kj18 t392).bind fun bt406 => (if bt398.2 = true then ((laws_yTexts.f kj18 bt398.1 l0).bind fun t410 => (if t410 = true then (if bt402.2 = true then (if bt402.1 = t368 then (if bt404.2 = true then (if bt404.1 = t372 then (if bt406.2 = true then ((laws_yTexts.f kj18 bt406.1 l0).bind fun t411 => (if t411 = true then (if t372 < 1 then (none) else (if t372 > (shl .i64 1 (l0.length : Int)) then (none) else (if t376 < (wrap64 ((shl .i64 1 (l0.length : Int)) - t372)) then (none) else (if t376 > (wrap64 (Int.tdiv (wrap64 ((shl .i64 1 (l0.length : Int)) * (l0.length : Int))) 2)) then (none) else (if t380 = true then (if t368 = (wrap64 ((shl .i64 1 (l0.length : Int)) - 1)) then (if t372 = 1 then (if t376 = (wrap64 ((shl .i64 1 (l0.length : Int)) - 1)) then (if t368 ≥ (shl .i64 1 (l0.length : Int)) then (none) else (laws_FnKeysToldOfAll.j2 kj18 a1 a2)) else (none)) else (none)) else (none)) else (if t368 ≥ (shl .i64 1 (l0.length : Int)) then (none) else (laws_FnKeysToldOfAll.j2 kj18 a1 a2))))))) else (none))) else (none)) else (none)) else (none)) else (none)) else (none)) else (none))) else (none)))))) = some r := by rw [if_pos rfl] at H; exact H
         clear H; have H := H1; clear H1
         obtain ⟨ji77, hji77⟩ : ∃ j_ : Int, (shl .i64 1 (l0.length : Int)) = j_ := ⟨_, rfl⟩
         replace H : ((impl_TurnKeys.f kj18 t384).bind fun bt398 => ((impl_LongestByKeys.f kj18 t384).bind fun bt402 => ((impl_PartsByKeys.f kj18 t384).bind fun bt404 => ((impl_ParseKeys.f kj18 t392).bind fun bt406 => (if bt398.2 = true then ((laws_yTexts.f kj18 bt398.1 l0).bind fun t410 => (if t410 = true then (if bt402.2 = true then (if bt402.1 = t368 then (if bt404.2 = true then (if bt404.1 = t372 then (if bt406.2 = true then ((laws_yTexts.f kj18 bt406.1 l0).bind fun t411 => (if t411 = true then (if t372 < 1 then (none) else (if t372 > (ji77) then (none) else (if t376 < (wrap64 ((ji77) - t372)) then (none) else (if t376 > (wrap64 (Int.tdiv (wrap64 ((ji77) * (l0.length : Int))) 2)) then (none) else (if t380 = true then (if t368 = (wrap64 ((ji77) - 1)) then (if t372 = 1 then (if t376 = (wrap64 ((ji77) - 1)) then (if t368 ≥ (ji77) then (none) else (laws_FnKeysToldOfAll.j2 kj18 a1 a2)) else (none)) else (none)) else (none)) else (if t368 ≥ (ji77) then (none) else (laws_FnKeysToldOfAll.j2 kj18 a1 a2))))))) else (none))) else (none)) else (none)) else (none)) else (none)) else (none)) else (none))) else (none)))))) = some r := by first | (rw [hji77] at H; exact H) | (simp only [hji77] at H ⊢; exact H)
         have hji77_ : (IntKind.i64.wrap (1 * 2 ^ min (l0.length : Int).toNat 64)) = ji77 := hji77
         have hji77z : (l0.length : Int) ≤ 64 → (IntKind.i64.wrap (1 * 2 ^ (l0.length : Int).toNat)) = ji77 := shl_small hji77
         have hji77p : (IntKind.i64.wrap (1 * 2 ^ min l0.length 64)) = ji77 := hji77_
         have hji77q : (l0.length : Int) ≤ 64 → (IntKind.i64.wrap (1 * 2 ^ l0.length)) = ji77 := hji77z
         have hji77r : (IntKind.i64.wrap (2 ^ min l0.length 64)) = ji77 := by have h_ := hji77p; rw [Int.one_mul] at h_; exact h_
         have hji77s : (l0.length : Int) ≤ 64 → (IntKind.i64.wrap (2 ^ l0.length)) = ji77 := fun hle_ => by have h_ := hji77q hle_; rw [Int.one_mul] at h_; exact h_
         have hji77u : (IntKind.i64.wrap (2 ^ min (l0.length : Int).toNat 64)) = ji77 := by have h_ := hji77_; rw [Int.one_mul] at h_; exact h_
         have hji77v : (l0.length : Int) ≤ 64 → (IntKind.i64.wrap (2 ^ (l0.length : Int).toNat)) = ji77 := fun hle_ => by have h_ := hji77z hle_; rw [Int.one_mul] at h_; exact h_
         have hji77y : (wrap64 (1 * 2 ^ min (l0.length : Int).toNat 64)) = ji77 := (i64_w _).symm.trans hji77_
         have hji77x : (l0.length : Int) ≤ 64 → (wrap64 (1 * 2 ^ (l0.length : Int).toNat)) = ji77 := fun h_ => (i64_w _).symm.trans (hji77z h_)
         replace H := Option.bind_eq_some_iff.mp H
         obtain ⟨⟨t398, t399⟩, A780, H⟩ := H
         replace H : ((impl_LongestByKeys.f kj18 t384).bind fun bt402 => ((impl_PartsByKeys.f kj18 t384).bind fun bt404 => ((impl_ParseKeys.f kj18 t392).bind fun bt406 => (if t399 = true then ((laws_yTexts.f kj18 t398 l0).bind fun t410 => (if t410 = true then (if bt402.2 = true then (if bt402.1 = t368 then (if bt404.2 = true then (if bt404.1 = t372 then (if bt406.2 = true then ((laws_yTexts.f kj18 bt406.1 l0).bind fun t411 => (if t411 = true then (if t372 < 1 then (none) else (if t372 > (ji77) then (none) else (if t376 < (wrap64 ((ji77) - t372)) then (none) else (if t376 > (wrap64 (Int.tdiv (wrap64 ((ji77) * (l0.length : Int))) 2)) then (none) else (if t380 = true then (if t368 = (wrap64 ((ji77) - 1)) then (if t372 = 1 then (if t376 = (wrap64 ((ji77) - 1)) then (if t368 ≥ (ji77) then (none) else (laws_FnKeysToldOfAll.j2 kj18 a1 a2)) else (none)) else (none)) else (none)) else (if t368 ≥ (ji77) then (none) else (laws_FnKeysToldOfAll.j2 kj18 a1 a2))))))) else (none))) else (none)) else (none)) else (none)) else (none)) else (none)) else (none))) else (none))))) = some r := H
         have A78 := aM A780
         clear A780
         replace H := Option.bind_eq_some_iff.mp H
         obtain ⟨⟨t402, t403⟩, A790, H⟩ := H
         replace H : ((impl_PartsByKeys.f kj18 t384).bind fun bt404 => ((impl_ParseKeys.f kj18 t392).bind fun bt406 => (if t399 = true then ((laws_yTexts.f kj18 t398 l0).bind fun t410 => (if t410 = true then (if t403 = true then (if t402 = t368 then (if bt404.2 = true then (if bt404.1 = t372 then (if bt406.2 = true then ((laws_yTexts.f kj18 bt406.1 l0).bind fun t411 => (if t411 = true then (if t372 < 1 then (none) else (if t372 > (ji77) then (none) else (if t376 < (wrap64 ((ji77) - t372)) then (none) else (if t376 > (wrap64 (Int.tdiv (wrap64 ((ji77) * (l0.length : Int))) 2)) then (none) else (if t380 = true then (if t368 = (wrap64 ((ji77) - 1)) then (if t372 = 1 then (if t376 = (wrap64 ((ji77) - 1)) then (if t368 ≥ (ji77) then (none) else (laws_FnKeysToldOfAll.j2 kj18 a1 a2)) else (none)) else (none)) else (none)) else (if t368 ≥ (ji77) then (none) else (laws_FnKeysToldOfAll.j2 kj18 a1 a2))))))) else (none))) else (none)) else (none)) else (none)) else (none)) else (none)) else (none))) else (none)))) = some r := H
         have A79 := aM A790
         clear A790
         replace H := Option.bind_eq_some_iff.mp H
         obtain ⟨⟨t404, t405⟩, A800, H⟩ := H
         replace H : ((impl_ParseKeys.f kj18 t392).bind fun bt406 => (if t399 = true then ((laws_yTexts.f kj18 t398 l0).bind fun t410 => (if t410 = true then (if t403 = true then (if t402 = t368 then (if t405 = true then (if t404 = t372 then (if bt406.2 = true then ((laws_yTexts.f kj18 bt406.1 l0).bind fun t411 => (if t411 = true then (if t372 < 1 then (none) else (if t372 > (ji77) then (none) else (if t376 < (wrap64 ((ji77) - t372)) then (none) else (if t376 > (wrap64 (Int.tdiv (wrap64 ((ji77) * (l0.length : Int))) 2)) then (none) else (if t380 = true then (if t368 = (wrap64 ((ji77) - 1)) then (if t372 = 1 then (if t376 = (wrap64 ((ji77) - 1)) then (if t368 ≥ (ji77) then (none) else (laws_FnKeysToldOfAll.j2 kj18 a1 a2)) else (none)) else (none)) else (none)) else (if t368 ≥ (ji77) then (none) else (laws_FnKeysToldOfAll.j2 kj18 a1 a2))))))) else (none))) else (none)) else (none)) else (none)) else (none)) else (none)) else (none))) else (none))) = some r := H
         have A80 := aM A800
         clear A800
         replace H := Option.bind_eq_some_iff.mp H
         obtain ⟨⟨t406, t407⟩, A810, H⟩ := H
         replace H : (if t399 = true then ((laws_yTexts.f kj18 t398 l0).bind fun t410 => (if t410 = true then (if t403 = true then (if t402 = t368 then (if t405 = true then (if t404 = t372 then (if t407 = true then ((laws_yTexts.f kj18 t406 l0).bind fun t411 => (if t411 = true then (if t372 < 1 then (none) else (if t372 > (ji77) then (none) else (if t376 < (wrap64 ((ji77) - t372)) then (none) else (if t376 > (wrap64 (Int.tdiv (wrap64 ((ji77) * (l0.length : Int))) 2)) then (none) else (if t380 = true then (if t368 = (wrap64 ((ji77) - 1)) then (if t372 = 1 then (if t376 = (wrap64 ((ji77) - 1)) then (if t368 ≥ (ji77) then (none) else (laws_FnKeysToldOfAll.j2 kj18 a1 a2)) else (none)) else (none)) else (none)) else (if t368 ≥ (ji77) then (none) else (laws_FnKeysToldOfAll.j2 kj18 a1 a2))))))) else (none))) else (none)) else (none)) else (none)) else (none)) else (none)) else (none))) else (none)) = some r := H
         have A81 := aM A810
         clear A810
         by_cases c82 : t399 = true
         ·as_aux_lemma =>
           subst c82
           have H1 : ((laws_yTexts.f kj18 t398 l0).bind fun t410 => (if t410 = true then (if t403 = true then (if t402 = t368 then (if t405 = true then (if t404 = t372 then (if t407 = true then ((laws_yTexts.f kj18 t406 l0).bind fun t411 => (if t411 = true then (if t372 < 1 then (none) else (if t372 > (ji77) then (none) else (if t376 < (wrap64 ((ji77) - t372)) then (none) else (if t376 > (wrap64 (Int.tdiv (wrap64 ((ji77) * (l0.length : Int))) 2)) then (none) else (if t380 = true then (if t368 = (wrap64 ((ji77) - 1)) then (if t372 = 1 then (if t376 = (wrap64 ((ji77) - 1)) then (if t368 ≥ (ji77) then (none) else (laws_FnKeysToldOfAll.j2 kj18 a1 a2)) else (none)) else (none)) else (none)) else (if t368 ≥ (ji77) then (none) else (laws_FnKeysToldOfAll.j2 kj18 a1 a2))))))) else (none))) else (none)) else (none)) else (none)) else (none)) else (none)) else (none))) = some r := by rw [if_pos rfl] at H; exact H
           clear H; have H := H1; clear H1
           replace H := Option.bind_eq_some_iff.mp H
           obtain ⟨t410, A830, H⟩ := H
           replace H : (if t410 = true then (if t403 = true then (if t402 = t368 then (if t405 = true then (if t404 = t372 then (if t407 = true then ((laws_yTexts.f kj18 t406 l0).bind fun t411 => (if t411 = true then (if t372 < 1 then (none) else (if t372 > (ji77) then (none) else (if t376 < (wrap64 ((ji77) - t372)) then (none) else (if t376 > (wrap64 (Int.tdiv (wrap64 ((ji77) * (l0.length : Int))) 2)) then (none) else (if t380 = true then (if t368 = (wrap64 ((ji77) - 1)) then (if t372 = 1 then (if t376 = (wrap64 ((ji77) - 1)) then (if t368 ≥ (ji77) then (none) else (laws_FnKeysToldOfAll.j2 kj18 a1 a2)) else (none)) else (none)) else (none)) else (if t368 ≥ (ji77) then (none) else (laws_FnKeysToldOfAll.j2 kj18 a1 a2))))))) else (none))) else (none)) else (none)) else (none)) else (none)) else (none)) else (none)) = some r := H
           have A83 := aM A830
           clear A830
           by_cases c84 : t410 = true
           ·as_aux_lemma =>
             subst c84
             have H1 : (if t403 = true then (if t402 = t368 then (if t405 = true then (if t404 = t372 then (if t407 = true then ((laws_yTexts.f kj18 t406 l0).bind fun t411 => (if t411 = true then (if t372 < 1 then (none) else (if t372 > (ji77) then (none) else (if t376 < (wrap64 ((ji77) - t372)) then (none) else (if t376 > (wrap64 (Int.tdiv (wrap64 ((ji77) * (l0.length : Int))) 2)) then (none) else (if t380 = true then (if t368 = (wrap64 ((ji77) - 1)) then (if t372 = 1 then (if t376 = (wrap64 ((ji77) - 1)) then (if t368 ≥ (ji77) then (none) else (laws_FnKeysToldOfAll.j2 kj18 a1 a2)) else (none)) else (none)) else (none)) else (if t368 ≥ (ji77) then (none) else (laws_FnKeysToldOfAll.j2 kj18 a1 a2))))))) else (none))) else (none)) else (none)) else (none)) else (none)) else (none)) = some r := by rw [if_pos rfl] at H; exact H
             clear H; have H := H1; clear H1
             by_cases c85 : t403 = true
             ·as_aux_lemma =>
               subst c85
               have H1 : (if t402 = t368 then (if t405 = true then (if t404 = t372 then (if t407 = true then ((laws_yTexts.f kj18 t406 l0).bind fun t411 => (if t411 = true then (if t372 < 1 then (none) else (if t372 > (ji77) then (none) else (if t376 < (wrap64 ((ji77) - t372)) then (none) else (if t376 > (wrap64 (Int.tdiv (wrap64 ((ji77) * (l0.length : Int))) 2)) then (none) else (if t380 = true then (if t368 = (wrap64 ((ji77) - 1)) then (if t372 = 1 then (if t376 = (wrap64 ((ji77) - 1)) then (if t368 ≥ (ji77) then (none) else (laws_FnKeysToldOfAll.j2 kj18 a1 a2)) else (none)) else (none)) else (none)) else (if t368 ≥ (ji77) then (none) else (laws_FnKeysToldOfAll.j2 kj18 a1 a2))))))) else (none))) else (none)) else (none)) else (none)) else (none)) = some r := by rw [if_pos rfl] at H; exact H
               clear H; have H := H1; clear H1
               by_cases c86 : t402 = t368
               ·as_aux_lemma =>
                 rw [if_pos c86] at H
                 have c86b0 : (t402 == t368) = true := beq_iff_eq.mpr c86
                 have c86b1 : (t402 != t368) = false := bne_eq_false_iff_eq.mpr c86
                 clear c86
                 (first | rw [c86b0] | (simp only [i64_w, i32_w]; rw [c86b0]) | skip)
                 by_cases c87 : t405 = true
                 ·as_aux_lemma =>
                   subst c87
                   have H1 : (if t404 = t372 then (if t407 = true then ((laws_yTexts.f kj18 t406 l0).bind fun t411 => (if t411 = true then (if t372 < 1 then (none) else (if t372 > (ji77) then (none) else (if t376 < (wrap64 ((ji77) - t372)) then (none) else (if t376 > (wrap64 (Int.tdiv (wrap64 ((ji77) * (l0.length : Int))) 2)) then (none) else (if t380 = true then (if t368 = (wrap64 ((ji77) - 1)) then (if t372 = 1 then (if t376 = (wrap64 ((ji77) - 1)) then (if t368 ≥ (ji77) then (none) else (laws_FnKeysToldOfAll.j2 kj18 a1 a2)) else (none)) else (none)) else (none)) else (if t368 ≥ (ji77) then (none) else (laws_FnKeysToldOfAll.j2 kj18 a1 a2))))))) else (none))) else (none)) else (none)) = some r := by rw [if_pos rfl] at H; exact H
                   clear H; have H := H1; clear H1
                   by_cases c88 : t404 = t372
                   ·as_aux_lemma =>
                     rw [if_pos c88] at H
                     have c88b0 : (t404 == t372) = true := beq_iff_eq.mpr c88
                     have c88b1 : (t404 != t372) = false := bne_eq_false_iff_eq.mpr c88
                     clear c88
                     by_cases c89 : t407 = true
                     ·as_aux_lemma =>
                       subst c89
                       have H1 : ((laws_yTexts.f kj18 t406 l0).bind fun t411 => (if t411 = true then (if t372 < 1 then (none) else (if t372 > (ji77) then (none) else (if t376 < (wrap64 ((ji77) - t372)) then (none) else (if t376 > (wrap64 (Int.tdiv (wrap64 ((ji77) * (l0.length : Int))) 2)) then (none) else (if t380 = true then (if t368 = (wrap64 ((ji77) - 1)) then (if t372 = 1 then (if t376 = (wrap64 ((ji77) - 1)) then (if t368 ≥ (ji77) then (none) else (laws_FnKeysToldOfAll.j2 kj18 a1 a2)) else (none)) else (none)) else (none)) else (if t368 ≥ (ji77) then (none) else (laws_FnKeysToldOfAll.j2 kj18 a1 a2))))))) else (none))) = some r := by rw [if_pos rfl] at H; exact H
                       clear H; have H := H1; clear H1
                       replace H := Option.bind_eq_some_iff.mp H
                       obtain ⟨t411, A900, H⟩ := H
                       replace H : (if t411 = true then (if t372 < 1 then (none) else (if t372 > (ji77) then (none) else (if t376 < (wrap64 ((ji77) - t372)) then (none) else (if t376 > (wrap64 (Int.tdiv (wrap64 ((ji77) * (l0.length : Int))) 2)) then (none) else (if t380 = true then (if t368 = (wrap64 ((ji77) - 1)) then (if t372 = 1 then (if t376 = (wrap64 ((ji77) - 1)) then (if t368 ≥ (ji77) then (none) else (laws_FnKeysToldOfAll.j2 kj18 a1 a2)) else (none)) else (none)) else (none)) else (if t368 ≥ (ji77) then (none) else (laws_FnKeysToldOfAll.j2 kj18 a1 a2))))))) else (none)) = some r := H
                       have A90 := aM A900
                       clear A900
                       by_cases c91 : t411 = true
                       ·as_aux_lemma =>
                         subst c91
                         have H1 : (if t372 < 1 then (none) else (if t372 > (ji77) then (none) else (if t376 < (wrap64 ((ji77) - t372)) then (none) else (if t376 > (wrap64 (Int.tdiv (wrap64 ((ji77) * (l0.length : Int))) 2)) then (none) else (if t380 = true then (if t368 = (wrap64 ((ji77) - 1)) then (if t372 = 1 then (if t376 = (wrap64 ((ji77) - 1)) then (if t368 ≥ (ji77) then (none) else (laws_FnKeysToldOfAll.j2 kj18 a1 a2)) else (none)) else (none)) else (none)) else (if t368 ≥ (ji77) then (none) else (laws_FnKeysToldOfAll.j2 kj18 a1 a2))))))) = some r := by rw [if_pos rfl] at H; exact H
                         clear H; have H := H1; clear H1
                         by_cases c92 : t372 < 1
                         ·rw [if_pos c92] at H
                          exact absurd H (by simp)
                         ·as_aux_lemma =>
                           rw [if_neg c92] at H
                           have c92b0 : decide (t372 < 1) = false := decide_eq_false c92
                           clear c92
                           by_cases c100 : t372 > (ji77)
                           ·rw [if_pos c100] at H
                            exact absurd H (by simp)
                           ·as_aux_lemma =>
                             rw [if_neg c100] at H
                             have c100b0 : decide ((ji77) < t372) = false := decide_eq_false c100
                             clear c100
                             by_cases c108 : t376 < (wrap64 ((ji77) - t372))
                             ·rw [if_pos c108] at H
                              exact absurd H (by simp)
                             ·as_aux_lemma =>
                               rw [if_neg c108] at H
                               have c108b0 : decide (t376 < (wrap64 ((ji77) - t372))) = false := decide_eq_false c108
                               clear c108
                               by_cases c116 : t376 > (wrap64 (Int.tdiv (wrap64 ((ji77) * (l0.length : Int))) 2))
                               ·rw [if_pos c116] at H
                                exact absurd H (by simp)
                               ·as_aux_lemma =>
                                 rw [if_neg c116] at H
                                 have c116b0 : decide ((wrap64 (Int.tdiv (wrap64 ((ji77) * (l0.length : Int))) 2)) < t376) = false := decide_eq_false c116
                                 clear c116
                                 by_cases c124 : t380 = true
                                 ·subst c124
                                  have H1 : (if t368 = (wrap64 ((ji77) - 1)) then (if t372 = 1 then (if t376 = (wrap64 ((ji77) - 1)) then (if t368 ≥ (ji77) then (none) else (laws_FnKeysToldOfAll.j2 kj18 a1 a2)) else (none)) else (none)) else (none)) = some r := by rw [if_pos rfl] at H; exact H
                                  clear H; have H := H1; clear H1
                                  by_cases c125 : t368 = (wrap64 ((ji77) - 1))
                                  ·rw [if_pos c125] at H
                                   have c125b0 : (t368 == (wrap64 ((ji77) - 1))) = true := beq_iff_eq.mpr c125
                                   have c125b1 : (t368 != (wrap64 ((ji77) - 1))) = false := bne_eq_false_iff_eq.mpr c125
                                   clear c125
                                   by_cases c126 : t372 = 1
                                   ·rw [if_pos c126] at H
                                    have c126b0 : (t372 == 1) = true := beq_iff_eq.mpr c126
                                    have c126b1 : (t372 != 1) = false := bne_eq_false_iff_eq.mpr c126
                                    clear c126
                                    by_cases c127 : t376 = (wrap64 ((ji77) - 1))
                                    ·rw [if_pos c127] at H
                                     have c127b0 : (t376 == (wrap64 ((ji77) - 1))) = true := beq_iff_eq.mpr c127
                                     have c127b1 : (t376 != (wrap64 ((ji77) - 1))) = false := bne_eq_false_iff_eq.mpr c127
                                     clear c127
                                     by_cases c128 : t368 ≥ (ji77)
                                     ·rw [if_pos c128] at H
                                      exact absurd H (by simp)
                                     ·as_aux_lemma =>
                                       rw [if_neg c128] at H
                                       have c128b0 : decide ((ji77) ≤ t368) = false := decide_eq_false c128
                                       clear c128
                                       have H' := aM H
                                       clear H
                                       obtain ⟨Ao136, co136, eo136⟩ := Kd.R_slice HO_23.out
                                       subst eo136
                                       go_wp2_with (first | ((with_reducible refine gate_callee (f := 13) rfl ?_); refine goesL_ (some 229) rfl rfl Tryz.func13 (by kernel_rfl) rfl #[.slice Ao136 t384.length co136] rfl (by (try simp only [List.map_toArray, List.map_cons, List.map_nil]); first | done | rfl | (simp only [List.length_drop, List.length_take]; rfl)) ?_; (with_reducible refine (impl_TurnKeys.calls kj18 _ _ t384 t398 true _ ?side1 ?side2 A78.out).mono ?_); (case side1 => repeat (first | exact (Kd.R_reads' HO_23.out).2.2 | (with_reducible refine cA ?_ _) | (with_reducible refine cN ?_ _) | (with_reducible refine cD ?_))); (case side2 => exact (Kd.R_reads' HO_23.out).2.1); rintro e w137 ⟨v400, rfl, ho0, hb⟩; refine ⟨_, rfl, ?_⟩; have n0_ := aM (Kd.R_elder' (by (with_reducible repeat (first | apply rA | apply rN | apply rD)); exact HO_23.out) (Kd.R_base ho0) hb); have n1_ := aM (Kd.R_lower (Kd.R_new' ho0 (Kd.R_lt (by (with_reducible repeat (first | apply rA | apply rN | apply rD)); exact HO_23.out))) (below_size (by repeat (first | (with_reducible first | exact HB.out | apply bA | apply bN | apply bD) | exact HB.out)))); have n2_ := aM (below_step (by repeat (first | (with_reducible first | exact HB.out | apply bA | apply bN | apply bD) | exact HB.out)) hb); clear HO_23; clear HB; have HO_23 := n0_; have HO401 := n1_; have HB := n2_; clear n0_ n1_ n2_; (try clear hb); (try clear hb2); (try clear hk); (try clear hi); (try clear ho0)) | ((with_reducible refine gate_callee (f := 5) rfl ?_); refine goesL_ (some 234) rfl rfl Tryz.func5 (by kernel_rfl) rfl #[.slice Ao136 t384.length co136] rfl (by (try simp only [List.map_toArray, List.map_cons, List.map_nil]); first | done | rfl | (simp only [List.length_drop, List.length_take]; rfl)) ?_; (with_reducible refine (impl_LongestByKeys.calls kj18 _ _ t384 t402 true _ ?side1 ?side2 A79.out).mono ?_); (case side1 => repeat (first | exact (Kd.R_reads' HO_23.out).2.2 | (with_reducible refine cA ?_ _) | (with_reducible refine cN ?_ _) | (with_reducible refine cD ?_))); (case side2 => exact (Kd.R_reads' HO_23.out).2.1); rintro e w138 ⟨rfl, hb⟩; refine ⟨_, rfl, ?_⟩; have n0_ := aM (Kd.R_below (by (with_reducible repeat (first | apply rA | apply rN | apply rD)); exact HO_23.out) hb); have n1_ := aM (Kd.R_below (by (with_reducible repeat (first | apply rA | apply rN | apply rD)); exact HO401.out) hb); have n2_ := aM (below_step (by repeat (first | (with_reducible first | exact HB.out | apply bA | apply bN | apply bD) | exact HB.out)) hb); clear HO_23; clear HO401; clear HB; have HO_23 := n0_; have HO401 := n1_; have HB := n2_; clear n0_ n1_ n2_; (try clear hb); (try clear hb2); (try clear hk); (try clear hi)) | ((with_reducible refine gate_callee (f := 7) rfl ?_); refine goesL_ (some 239) rfl rfl Tryz.func7 (by kernel_rfl) rfl #[.slice Ao136 t384.length co136] rfl (by (try simp only [List.map_toArray, List.map_cons, List.map_nil]); first | done | rfl | (simp only [List.length_drop, List.length_take]; rfl)) ?_; (with_reducible refine (impl_PartsByKeys.calls kj18 _ _ t384 t404 true _ ?side1 ?side2 A80.out).mono ?_); (case side1 => repeat (first | exact (Kd.R_reads' HO_23.out).2.2 | (with_reducible refine cA ?_ _) | (with_reducible refine cN ?_ _) | (with_reducible refine cD ?_))); (case side2 => exact (Kd.R_reads' HO_23.out).2.1); rintro e w139 ⟨rfl, hb⟩; refine ⟨_, rfl, ?_⟩; have n0_ := aM (Kd.R_below (by (with_reducible repeat (first | apply rA | apply rN | apply rD)); exact HO_23.out) hb); have n1_ := aM (Kd.R_below (by (with_reducible repeat (first | apply rA | apply rN | apply rD)); exact HO401.out) hb); have n2_ := aM (below_step (by repeat (first | (with_reducible first | exact HB.out | apply bA | apply bN | apply bD) | exact HB.out)) hb); clear HO_23; clear HO401; clear HB; have HO_23 := n0_; have HO401 := n1_; have HB := n2_; clear n0_ n1_ n2_; (try clear hb); (try clear hb2); (try clear hk); (try clear hi)) | ((with_reducible refine gate_callee (f := 19) rfl ?_); refine goesL_ (some 244) rfl rfl Tryz.func19 (by kernel_rfl) rfl #[.string t392] rfl (by (try simp only [List.map_toArray, List.map_cons, List.map_nil]); first | done | rfl | (simp only [List.length_drop, List.length_take]; rfl)) ?_; (with_reducible refine (impl_ParseKeys.calls kj18 t392 t406 true _ A81.out).mono ?_); rintro e w140 ⟨v408, rfl, ho0, hb⟩; refine ⟨_, rfl, ?_⟩; have n0_ := aM (Kd.R_elder' (by (with_reducible repeat (first | apply rA | apply rN | apply rD)); exact HO_23.out) (Kd.R_base ho0) hb); have n1_ := aM (Kd.R_elder' (by (with_reducible repeat (first | apply rA | apply rN | apply rD)); exact HO401.out) (Kd.R_base ho0) hb); have n2_ := aM (Kd.R_lower (Kd.R_new' (Kd.R_new' ho0 (Kd.R_lt (by (with_reducible repeat (first | apply rA | apply rN | apply rD)); exact HO_23.out))) (Kd.R_lt (by (with_reducible repeat (first | apply rA | apply rN | apply rD)); exact HO401.out))) (below_size (by repeat (first | (with_reducible first | exact HB.out | apply bA | apply bN | apply bD) | exact HB.out)))); have n3_ := aM (below_step (by repeat (first | (with_reducible first | exact HB.out | apply bA | apply bN | apply bD) | exact HB.out)) hb); clear HO_23; clear HO401; clear HB; have HO_23 := n0_; have HO401 := n1_; have HO409 := n2_; have HB := n3_; clear n0_ n1_ n2_ n3_; (try clear hb); (try clear hb2); (try clear hk); (try clear hi); (try clear ho0); obtain ⟨Ao141, co141, eo141⟩ := Kd.R_slice HO401.out; subst eo141) | (go_at_call 17; (with_reducible refine (laws_yTexts.calls kj18 _ _ t398 _ _ l0 true _ ?side1 ?side2 ?side3 ?side4 A83.out).mono ?_); (case side1 => repeat (first | exact (Kd.R_reads' HO401.out).2.2 | (with_reducible refine cA ?_ _) | (with_reducible refine cN ?_ _) | (with_reducible refine cD ?_))); (case side2 => exact (Kd.R_reads' HO401.out).2.1); (case side3 => repeat (first | exact (Kd.C_below HR0.out HB.out) | (with_reducible refine cA ?_ _) | (with_reducible refine cN ?_ _) | (with_reducible refine cD ?_))); (case side4 => exact HC0.out); rintro e w' ⟨rfl, ⟨nd, rfl⟩⟩; obtain ⟨Ao142, co142, eo142⟩ := Kd.R_slice HO409.out; subst eo142) | (go_at_call 17; (with_reducible refine (laws_yTexts.calls kj18 _ _ t406 _ _ l0 true _ ?side1 ?side2 ?side3 ?side4 A90.out).mono ?_); (case side1 => repeat (first | exact (Kd.R_reads' HO409.out).2.2 | (with_reducible refine cA ?_ _) | (with_reducible refine cN ?_ _) | (with_reducible refine cD ?_))); (case side2 => exact (Kd.R_reads' HO409.out).2.1); (case side3 => repeat (first | exact (Kd.C_below HR0.out (by repeat (first | (with_reducible first | exact HB.out | apply bA | apply bN | apply bD) | exact HB.out))) | (with_reducible refine cA ?_ _) | (with_reducible refine cN ?_ _) | (with_reducible refine cD ?_))); (case side4 => exact HC0.out); rintro e w' ⟨rfl, ⟨nd, rfl⟩⟩))
                                       go_meet
                                       case rel => exact ⟨_, H', ⟨by have := HJ3.out; have := HJ18.out; first | omega | exact Nat.le_refl _⟩, ⟨by repeat (first | (with_reducible first | exact HB.out | apply bA | apply bN | apply bD) | exact HB.out)⟩⟩
                                    ·rw [if_neg c127] at H
                                     exact absurd H (by simp)
                                   ·rw [if_neg c126] at H
                                    exact absurd H (by simp)
                                  ·rw [if_neg c125] at H
                                   exact absurd H (by simp)
                                 ·replace c124 := Bool.eq_false_iff.mpr c124
                                  subst c124
                                  have H1 : (if t368 ≥ (ji77) then (none) else (laws_FnKeysToldOfAll.j2 kj18 a1 a2)) = some r := by rw [if_neg (show ¬ (false = true) by decide)] at H; exact H
                                  clear H; have H := H1; clear H1
                                  by_cases c164 : t368 ≥ (ji77)
                                  ·rw [if_pos c164] at H
                                   exact absurd H (by simp)
                                  ·as_aux_lemma =>
                                    rw [if_neg c164] at H
                                    have c164b0 : decide ((ji77) ≤ t368) = false := decide_eq_false c164
                                    clear c164
                                    have H' := aM H
                                    clear H
                                    obtain ⟨Ao172, co172, eo172⟩ := Kd.R_slice HO_23.out
                                    subst eo172
                                    go_wp2_with (first | ((with_reducible refine gate_callee (f := 13) rfl ?_); refine goesL_ (some 229) rfl rfl Tryz.func13 (by kernel_rfl) rfl #[.slice Ao172 t384.length co172] rfl (by (try simp only [List.map_toArray, List.map_cons, List.map_nil]); first | done | rfl | (simp only [List.length_drop, List.length_take]; rfl)) ?_; (with_reducible refine (impl_TurnKeys.calls kj18 _ _ t384 t398 true _ ?side1 ?side2 A78.out).mono ?_); (case side1 => repeat (first | exact (Kd.R_reads' HO_23.out).2.2 | (with_reducible refine cA ?_ _) | (with_reducible refine cN ?_ _) | (with_reducible refine cD ?_))); (case side2 => exact (Kd.R_reads' HO_23.out).2.1); rintro e w173 ⟨v400, rfl, ho0, hb⟩; refine ⟨_, rfl, ?_⟩; have n0_ := aM (Kd.R_elder' (by (with_reducible repeat (first | apply rA | apply rN | apply rD)); exact HO_23.out) (Kd.R_base ho0) hb); have n1_ := aM (Kd.R_lower (Kd.R_new' ho0 (Kd.R_lt (by (with_reducible repeat (first | apply rA | apply rN | apply rD)); exact HO_23.out))) (below_size (by repeat (first | (with_reducible first | exact HB.out | apply bA | apply bN | apply bD) | exact HB.out)))); have n2_ := aM (below_step (by repeat (first | (with_reducible first | exact HB.out | apply bA | apply bN | apply bD) | exact HB.out)) hb); clear HO_23; clear HB; have HO_23 := n0_; have HO401 := n1_; have HB := n2_; clear n0_ n1_ n2_; (try clear hb); (try clear hb2); (try clear hk); (try clear hi); (try clear ho0)) | ((with_reducible refine gate_callee (f := 5) rfl ?_); refine goesL_ (some 234) rfl rfl Tryz.func5 (by kernel_rfl) rfl #[.slice Ao172 t384.length co172] rfl (by (try simp only [List.map_toArray, List.map_cons, List.map_nil]); first | done | rfl | (simp only [List.length_drop, List.length_take]; rfl)) ?_; (with_reducible refine (impl_LongestByKeys.calls kj18 _ _ t384 t402 true _ ?side1 ?side2 A79.out).mono ?_); (case side1 => repeat (first | exact (Kd.R_reads' HO_23.out).2.2 | (with_reducible refine cA ?_ _) | (with_reducible refine cN ?_ _) | (with_reducible refine cD ?_))); (case side2 => exact (Kd.R_reads' HO_23.out).2.1); rintro e w174 ⟨rfl, hb⟩; refine ⟨_, rfl, ?_⟩; have n0_ := aM (Kd.R_below (by (with_reducible repeat (first | apply rA | apply rN | apply rD)); exact HO_23.out) hb); have n1_ := aM (Kd.R_below (by (with_reducible repeat (first | apply rA | apply rN | apply rD)); exact HO401.out) hb); have n2_ := aM (below_step (by repeat (first | (with_reducible first | exact HB.out | apply bA | apply bN | apply bD) | exact HB.out)) hb); clear HO_23; clear HO401; clear HB; have HO_23 := n0_; have HO401 := n1_; have HB := n2_; clear n0_ n1_ n2_; (try clear hb); (try clear hb2); (try clear hk); (try clear hi)) | ((with_reducible refine gate_callee (f := 7) rfl ?_); refine goesL_ (some 239) rfl rfl Tryz.func7 (by kernel_rfl) rfl #[.slice Ao172 t384.length co172] rfl (by (try simp only [List.map_toArray, List.map_cons, List.map_nil]); first | done | rfl | (simp only [List.length_drop, List.length_take]; rfl)) ?_; (with_reducible refine (impl_PartsByKeys.calls kj18 _ _ t384 t404 true _ ?side1 ?side2 A80.out).mono ?_); (case side1 => repeat (first | exact (Kd.R_reads' HO_23.out).2.2 | (with_reducible refine cA ?_ _) | (with_reducible refine cN ?_ _) | (with_reducible refine cD ?_))); (case side2 => exact (Kd.R_reads' HO_23.out).2.1); rintro e w175 ⟨rfl, hb⟩; refine ⟨_, rfl, ?_⟩; have n0_ := aM (Kd.R_below (by (with_reducible repeat (first | apply rA | apply rN | apply rD)); exact HO_23.out) hb); have n1_ := aM (Kd.R_below (by (with_reducible repeat (first | apply rA | apply rN | apply rD)); exact HO401.out) hb); have n2_ := aM (below_step (by repeat (first | (with_reducible first | exact HB.out | apply bA | apply bN | apply bD) | exact HB.out)) hb); clear HO_23; clear HO401; clear HB; have HO_23 := n0_; have HO401 := n1_; have HB := n2_; clear n0_ n1_ n2_; (try clear hb); (try clear hb2); (try clear hk); (try clear hi)) | ((with_reducible refine gate_callee (f := 19) rfl ?_); refine goesL_ (some 244) rfl rfl Tryz.func19 (by kernel_rfl) rfl #[.string t392] rfl (by (try simp only [List.map_toArray, List.map_cons, List.map_nil]); first | done | rfl | (simp only [List.length_drop, List.length_take]; rfl)) ?_; (with_reducible refine (impl_ParseKeys.calls kj18 t392 t406 true _ A81.out).mono ?_); rintro e w176 ⟨v408, rfl, ho0, hb⟩; refine ⟨_, rfl, ?_⟩; have n0_ := aM (Kd.R_elder' (by (with_reducible repeat (first | apply rA | apply rN | apply rD)); exact HO_23.out) (Kd.R_base ho0) hb); have n1_ := aM (Kd.R_elder' (by (with_reducible repeat (first | apply rA | apply rN | apply rD)); exact HO401.out) (Kd.R_base ho0) hb); have n2_ := aM (Kd.R_lower (Kd.R_new' (Kd.R_new' ho0 (Kd.R_lt (by (with_reducible repeat (first | apply rA | apply rN | apply rD)); exact HO_23.out))) (Kd.R_lt (by (with_reducible repeat (first | apply rA | apply rN | apply rD)); exact HO401.out))) (below_size (by repeat (first | (with_reducible first | exact HB.out | apply bA | apply bN | apply bD) | exact HB.out)))); have n3_ := aM (below_step (by repeat (first | (with_reducible first | exact HB.out | apply bA | apply bN | apply bD) | exact HB.out)) hb); clear HO_23; clear HO401; clear HB; have HO_23 := n0_; have HO401 := n1_; have HO409 := n2_; have HB := n3_; clear n0_ n1_ n2_ n3_; (try clear hb); (try clear hb2); (try clear hk); (try clear hi); (try clear ho0); obtain ⟨Ao177, co177, eo177⟩ := Kd.R_slice HO401.out; subst eo177) | (go_at_call 17; (with_reducible refine (laws_yTexts.calls kj18 _ _ t398 _ _ l0 true _ ?side1 ?side2 ?side3 ?side4 A83.out).mono ?_); (case side1 => repeat (first | exact (Kd.R_reads' HO401.out).2.2 | (with_reducible refine cA ?_ _) | (with_reducible refine cN ?_ _) | (with_reducible refine cD ?_))); (case side2 => exact (Kd.R_reads' HO401.out).2.1); (case side3 => repeat (first | exact (Kd.C_below HR0.out HB.out) | (with_reducible refine cA ?_ _) | (with_reducible refine cN ?_ _) | (with_reducible refine cD ?_))); (case side4 => exact HC0.out); rintro e w' ⟨rfl, ⟨nd, rfl⟩⟩; obtain ⟨Ao178, co178, eo178⟩ := Kd.R_slice HO409.out; subst eo178) | (go_at_call 17; (with_reducible refine (laws_yTexts.calls kj18 _ _ t406 _ _ l0 true _ ?side1 ?side2 ?side3 ?side4 A90.out).mono ?_); (case side1 => repeat (first | exact (Kd.R_reads' HO409.out).2.2 | (with_reducible refine cA ?_ _) | (with_reducible refine cN ?_ _) | (with_reducible refine cD ?_))); (case side2 => exact (Kd.R_reads' HO409.out).2.1); (case side3 => repeat (first | exact (Kd.C_below HR0.out (by repeat (first | (with_reducible first | exact HB.out | apply bA | apply bN | apply bD) | exact HB.out))) | (with_reducible refine cA ?_ _) | (with_reducible refine cN ?_ _) | (with_reducible refine cD ?_))); (case side4 => exact HC0.out); rintro e w' ⟨rfl, ⟨nd, rfl⟩⟩))
                                    all_goals (go_meet; (case rel => exact ⟨_, H', ⟨by have := HJ3.out; have := HJ18.out; first | omega | exact Nat.le_refl _⟩, ⟨by repeat (first | (with_reducible first | exact HB.out | apply bA | apply bN | apply bD) | exact HB.out)⟩⟩))
                       ·replace c91 := Bool.eq_false_iff.mpr c91
                        subst c91
                        have H1 : (none) = some r := by rw [if_neg (show ¬ (false = true) by decide)] at H; exact H
                        exact absurd H1 (by simp)
                     ·replace c89 := Bool.eq_false_iff.mpr c89
                      subst c89
                      have H1 : (none) = some r := by rw [if_neg (show ¬ (false = true) by decide)] at H; exact H
                      exact absurd H1 (by simp)
                   ·rw [if_neg c88] at H
                    exact absurd H (by simp)
                 ·replace c87 := Bool.eq_false_iff.mpr c87
                  subst c87
                  have H1 : (none) = some r := by rw [if_neg (show ¬ (false = true) by decide)] at H; exact H
                  exact absurd H1 (by simp)
               ·rw [if_neg c86] at H
                exact absurd H (by simp)
             ·replace c85 := Bool.eq_false_iff.mpr c85
              subst c85
              have H1 : (none) = some r := by rw [if_neg (show ¬ (false = true) by decide)] at H; exact H
              exact absurd H1 (by simp)
           ·replace c84 := Bool.eq_false_iff.mpr c84
            subst c84
            have H1 : (none) = some r := by rw [if_neg (show ¬ (false = true) by decide)] at H; exact H
            exact absurd H1 (by simp)
         ·replace c82 := Bool.eq_false_iff.mpr c82
          subst c82
          have H1 : (none) = some r := by rw [if_neg (show ¬ (false = true) by decide)] at H; exact H
          exact absurd H1 (by simp)
       ·as_aux_lemma =>
         replace c76 := Bool.eq_false_iff.mpr c76
         subst c76
         have H1 : (laws_FnKeysToldOfAll.j2 kj18 a1 a2) = some r := by rw [if_neg (show ¬ (false = true) by decide)] at H; exact H
         clear H; have H := H1; clear H1
         have H' := aM H
         clear H
         go_wp2
         go_meet
         case rel => exact ⟨_, H', ⟨by have := HJ3.out; have := HJ18.out; first | omega | exact Nat.le_refl _⟩, ⟨by repeat (first | (with_reducible first | exact HB.out | apply bA | apply bN | apply bD) | exact HB.out)⟩⟩
     case rest =>
      rename_i za_ zb_ zc_ zd_ ze_ zf_ zg_ zh_ zi_ zj_ zk_ zl_ zm_ zn_ zo_ zp_ zq_ zr_ zs_ zt_ zu_ zv_ zw_ zx_ zy_ zz_ z0_ z1_ z2_ z3_ z4_ z5_ z6_ z7_ z8_ z9_ zba_ zbb_ zbc_ zbd_ zbe_ zbf_ zbg_ zbh_ zbi_ zbj_ zbk_ zbl_ zbm_ zbn_ zbo_ zbp_ zbq_ zbr_ zbs_ zbt_ zbu_ zbv_ zbw_ zbx_ zby_ zbz_ zb0_ zb1_ zb2_ zb3_ zb4_ zb5_ zb6_ zb7_ zb8_ zb9_ zca_ zcb_ zcc_ zcd_ zce_ zcf_ zcg_ zch_ zci_ zcj_ zck_ zcl_ zcm_ zcn_ zco_ zcp_ zcq_ zcr_ zcs_ zct_ zcu_ zcv_ zcw_ zcx_ zcy_ zcz_ zc0_ zc1_ zc2_ zc3_ zc4_ zc5_ zc6_ zc7_ zc8_ zc9_ zda_ zdb_ zdc_ zdd_ zde_ zdf_ zdg_ zdh_ zdi_ zdj_ zdk_ zdl_ zdm_ zdn_ zdo_ zdp_ zdq_ zdr_ zds_ zdt_ zdu_ zdv_ zdw_ zdx_ zdy_ zdz_ zd0_ zd1_ zd2_ zd3_ zd4_ zd5_ zd6_ zd7_ zd8_ zd9_ zea_ zeb_ zec_ zed_ zee_ zef_ zeg_ zeh_ zei_ zej_ zek_ zel_ zem_ zen_ zeo_ zep_ zeq_ zer_ zes_ zet_ zeu_ zev_ zew_ zex_ zey_ zez_ ze0_ ze1_ ze2_ ze3_ ze4_ ze5_ ze6_ ze7_ ze8_ ze9_ zfa_ zfb_ zfc_ zfd_ zfe_ zff_ zfg_ zfh_ zfi_ zfj_ zfk_ zfl_ zfm_ zfn_ zfo_ zfp_ zfq_ zfr_ zfs_ zft_ zfu_ zfv_ zfw_ zfx_ zfy_ zfz_ zf0_ zf1_ zf2_ zf3_ zf4_ zf5_ zf6_ zf7_ zf8_ zf9_ zga_ zgb_ zgc_ zgd_ zge_ zgf_ zgg_ zgh_ zgi_ zgj_ zgk_ zgl_ zgm_ zgn_ zgo_ zgp_ zgq_ zgr_ zgs_ zgt_ zgu_ zgv_ zgw_ zgx_ zgy_ zgz_ zg0_ zg1_ zg2_ zg3_ zg4_ zg5_ zg6_ zg7_ zg8_ zg9_ zha_ zhb_ zhc_ zhd_ zhe_ zhf_ zhg_ zhh_ zhi_ zhj_ zhk_ zhl_ zhm_ zhn_ zho_ zhp_ zhq_ zhr_ zhs_ zht_ zhu_ zhv_ zhw_ zhx_ zhy_ zhz_ zh0_ zh1_ zh2_ zh3_ zh4_ zh5_ zh6_ zh7_ zh8_ zh9_ zia_ zib_ zic_ zid_ zie_ zif_ zig_ zih_ zii_ zij_ zik_ zil_ zim_ zin_ zio_ zip_ ziq_ zir_ zis_ zit_ ziu_ ziv_ ziw_ zix_ ziy_ ziz_ zi0_ zi1_ zi2_ zi3_ zi4_ zi5_ zi6_ zi7_ zi8_ zi9_ zja_ zjb_ zjc_ zjd_ zje_ zjf_ zjg_ zjh_ zji_ zjj_ zjk_ zjl_ zjm_ zjn_ zjo_ zjp_ zjq_ zjr_ zjs_ zjt_ zju_ zjv_ zjw_ zjx_ zjy_ zjz_ zj0_ zj1_ zj2_ zj3_ zj4_ zj5_ zj6_ zj7_ zj8_ zj9_ zka_ zkb_ zkc_ zkd_ zke_ zkf_ zkg_ zkh_ zki_ zkj_ zkk_ zkl_ zkm_ zkn_ zko_ zkp_ zkq_ zkr_ zks_ zkt_ zku_ zkv_ zkw_ zkx_ zky_ zkz_ zk0_ zk1_ zk2_ zk3_ zk4_ zk5_ zk6_ zk7_ zk8_ zk9_ zla_ zlb_ zlc_ zld_ zle_ zlf_ zlg_ zlh_ zli_ zlj_ zlk_ zll_ zlm_ zln_ zlo_ zlp_ zlq_ zlr_ zls_ zlt_ zlu_ zlv_ zlw_ zlx_ zly_ zlz_ zl0_ zl1_ zl2_ zl3_ zl4_ zl5_ zl6_ zl7_ zl8_ zl9_ zma_ zmb_ zmc_ zmd_ zme_ zmf_ zmg_ zmh_ zmi_ zmj_ zmk_ zml_ zmm_ zmn_ zmo_ zmp_ zmq_ zmr_ zms_ zmt_ zmu_ zmv_ zmw_ zmx_ zmy_ zmz_ zm0_ zm1_ zm2_ zm3_ zm4_ zm5_ zm6_ zm7_ zm8_ zm9_ zna_ znb_ znc_ znd_ zne_ znf_ zng_ znh_ zni_ znj_ znk_ znl_ znm_ znn_ zno_ znp_ znq_ znr_ zns_ znt_ znu_ znv_ znw_ znx_ zny_ znz_ zn0_ zn1_ zn2_ zn3_ zn4_ zn5_ zn6_ zn7_ zn8_ zn9_ zoa_ zob_ zoc_ zod_ zoe_ zof_ zog_ zoh_ zoi_ zoj_ zok_ zol_ zom_ zon_ zoo_ zop_ zoq_ zor_ zos_ zot_ zou_ zov_ zow_ zox_ zoy_ zoz_ zo0_ zo1_ zo2_ zo3_ zo4_ zo5_ zo6_ zo7_ zo8_ zo9_ zpa_ zpb_ zpc_ zpd_ zpe_ zpf_ zpg_ zph_ zpi_ zpj_ zpk_ zpl_ zpm_ zpn_ zpo_ zpp_ zpq_ zpr_ zps_ zpt_ zpu_ zpv_ zpw_ zpx_ zpy_ zpz_ zp0_ zp1_ zp2_ zp3_ zp4_ zp5_ zp6_ zp7_ zp8_ zp9_ zqa_ zqb_ zqc_ zqd_ zqe_ zqf_ zqg_ zqh_ zqi_ zqj_ zqk_ zql_ zqm_ zqn_ zqo_ zqp_ zqq_ zqr_ zqs_ zqt_ zqu_ zqv_ zqw_ zqx_ zqy_ zqz_ zq0_ zq1_ zq2_ zq3_ zq4_ zq5_ zq6_ zq7_ zq8_ zq9_ zra_ zrb_ zrc_ zrd_ zre_ zrf_ zrg_ zrh_ zri_ zrj_ zrk_ zrl_ zrm_ zrn_ zro_ zrp_ zrq_ zrr_ zrs_ zrt_ zru_ zrv_ zrw_ zrx_ zry_ zrz_ zr0_ zr1_ zr2_ zr3_ zr4_ zr5_ zr6_ zr7_ zr8_ zr9_ zsa_ zsb_ zsc_ zsd_ zse_ zsf_ zsg_ zsh_ zsi_ zsj_ zsk_ zsl_ zsm_ zsn_ zso_ zsp_ zsq_ zsr_ zss_ zst_ zsu_ zsv_ zsw_ zsx_ zsy_ zsz_ zs0_ zs1_ zs2_ zs3_ zs4_ zs5_ zs6_ zs7_ zs8_ zs9_ zta_ ztb_ ztc_ ztd_ zte_ ztf_ ztg_ zth_ zti_ ztj_ ztk_ ztl_ ztm_ ztn_ zto_ ztp_ ztq_ ztr_ zts_ ztt_ ztu_ ztv_ ztw_ ztx_ zty_ ztz_ zt0_ zt1_ zt2_ zt3_ zt4_ zt5_ zt6_ zt7_ zt8_ zt9_ zua_ zub_ zuc_ zud_ zue_ zuf_ zug_ zuh_ zui_ zuj_ zuk_ zul_ zum_ zun_ zuo_ zup_ zuq_ zur_ zus_ zut_ zuu_ zuv_ zuw_ zux_ zuy_ zuz_ zu0_ zu1_ zu2_ zu3_ zu4_ zu5_ zu6_ zu7_ zu8_ zu9_ zva_ zvb_ zvc_ zvd_ zve_ zvf_ zvg_ zvh_ zvi_ zvj_ zvk_ zvl_ zvm_ zvn_ zvo_ zvp_ zvq_ zvr_ zvs_ zvt_ zvu_ zvv_ zvw_ zvx_ zvy_ zvz_ zv0_ zv1_ zv2_ zv3_ zv4_ zv5_ zv6_ zv7_ zv8_ zv9_ zwa_ zwb_ zwc_ zwd_ zwe_ zwf_ zwg_ zwh_ zwi_ zwj_ zwk_ zwl_ zwm_ zwn_ zwo_ zwp_ zwq_ zwr_ zws_ zwt_ zwu_ zwv_ zww_ zwx_ zwy_ zwz_ zw0_ zw1_ zw2_ zw3_ zw4_ zw5_ zw6_ zw7_ zw8_ zw9_ zxa_ zxb_ zxc_ zxd_ zxe_
      revert k A0 c0 l0 a1 a2 r w HR0 HC0 za_ zb_ zc_ zd_ ze_ zf_ zg_ zh_ zi_ zj_ zk_ zl_ zm_ zn_ zo_ zp_ zq_ zr_ zs_ zt_ zu_ zv_ zw_ zx_ zy_ zz_ z0_ z1_ z2_ z3_ z4_ z5_ z6_ z7_ z8_ z9_ zba_ zbb_ zbc_ zbd_ zbe_ zbf_ zbg_ zbh_ zbi_ zbj_ zbk_ zbl_ zbm_ zbn_ zbo_ zbp_ zbq_ zbr_ zbs_ zbt_ zbu_ zbv_ zbw_ zbx_ zby_ zbz_ zb0_ zb1_ zb2_ zb3_ zb4_ zb5_ zb6_ zb7_ zb8_ zb9_ zca_ zcb_ zcc_ zcd_ zce_ zcf_ zcg_ zch_ zci_ zcj_ zck_ zcl_ zcm_ zcn_ zco_ zcp_ zcq_ zcr_ zcs_ zct_ zcu_ zcv_ zcw_ zcx_ zcy_ zcz_ zc0_ zc1_ zc2_ zc3_ zc4_ zc5_ zc6_ zc7_ zc8_ zc9_ zda_ zdb_ zdc_ zdd_ zde_ zdf_ zdg_ zdh_ zdi_ zdj_ zdk_ zdl_ zdm_ zdn_ zdo_ zdp_ zdq_ zdr_ zds_ zdt_ zdu_ zdv_ zdw_ zdx_ zdy_ zdz_ zd0_ zd1_ zd2_ zd3_ zd4_ zd5_ zd6_ zd7_ zd8_ zd9_ zea_ zeb_ zec_ zed_ zee_ zef_ zeg_ zeh_ zei_ zej_ zek_ zel_ zem_ zen_ zeo_ zep_ zeq_ zer_ zes_ zet_ zeu_ zev_ zew_ zex_ zey_ zez_ ze0_ ze1_ ze2_ ze3_ ze4_ ze5_ ze6_ ze7_ ze8_ ze9_ zfa_ zfb_ zfc_ zfd_ zfe_ zff_ zfg_ zfh_ zfi_ zfj_ zfk_ zfl_ zfm_ zfn_ zfo_ zfp_ zfq_ zfr_ zfs_ zft_ zfu_ zfv_ zfw_ zfx_ zfy_ zfz_ zf0_ zf1_ zf2_ zf3_ zf4_ zf5_ zf6_ zf7_ zf8_ zf9_ zga_ zgb_ zgc_ zgd_ zge_ zgf_ zgg_ zgh_ zgi_ zgj_ zgk_ zgl_ zgm_ zgn_ zgo_ zgp_ zgq_ zgr_ zgs_ zgt_ zgu_ zgv_ zgw_ zgx_ zgy_ zgz_ zg0_ zg1_ zg2_ zg3_ zg4_ zg5_ zg6_ zg7_ zg8_ zg9_ zha_ zhb_ zhc_ zhd_ zhe_ zhf_ zhg_ zhh_ zhi_ zhj_ zhk_ zhl_ zhm_ zhn_ zho_ zhp_ zhq_ zhr_ zhs_ zht_ zhu_ zhv_ zhw_ zhx_ zhy_ zhz_ zh0_ zh1_ zh2_ zh3_ zh4_ zh5_ zh6_ zh7_ zh8_ zh9_ zia_ zib_ zic_ zid_ zie_ zif_ zig_ zih_ zii_ zij_ zik_ zil_ zim_ zin_ zio_ zip_ ziq_ zir_ zis_ zit_ ziu_ ziv_ ziw_ zix_ ziy_ ziz_ zi0_ zi1_ zi2_ zi3_ zi4_ zi5_ zi6_ zi7_ zi8_ zi9_ zja_ zjb_ zjc_ zjd_ zje_ zjf_ zjg_ zjh_ zji_ zjj_ zjk_ zjl_ zjm_ zjn_ zjo_ zjp_ zjq_ zjr_ zjs_ zjt_ zju_ zjv_ zjw_ zjx_ zjy_ zjz_ zj0_ zj1_ zj2_ zj3_ zj4_ zj5_ zj6_ zj7_ zj8_ zj9_ zka_ zkb_ zkc_ zkd_ zke_ zkf_ zkg_ zkh_ zki_ zkj_ zkk_ zkl_ zkm_ zkn_ zko_ zkp_ zkq_ zkr_ zks_ zkt_ zku_ zkv_ zkw_ zkx_ zky_ zkz_ zk0_ zk1_ zk2_ zk3_ zk4_ zk5_ zk6_ zk7_ zk8_ zk9_ zla_ zlb_ zlc_ zld_ zle_ zlf_ zlg_ zlh_ zli_ zlj_ zlk_ zll_ zlm_ zln_ zlo_ zlp_ zlq_ zlr_ zls_ zlt_ kj3 HJ3 t368 t369 A7 t370 t371 A8 t372 t373 A9 t374 t375 A10 t376 t377 A11 t378 t379 A12 t380 t381 A13 t382 t383 A14 t384 t385 A15 t388 t389 A16 t392 t393 A17 t394 t395 A18 w20 w21 w22 w23 w24 w25 w26 w27 w28 v386 w29 v390 w30 HO387 HO391 zlu_ nd zlv_ zlw_ zlx_ zly_ zlz_ zl0_ zl1_ zl2_ zl3_ zl4_ zl5_ zl6_ zl7_ zl8_ zl9_ zma_ zmb_ zmc_ zmd_ zme_ zmf_ zmg_ zmh_ zmi_ zmj_ zmk_ zml_ zmm_ zmn_ zmo_ zmp_ zmq_ zmr_ zms_ zmt_ zmu_ zmv_ zmw_ zmx_ zmy_ zmz_ zm0_ zm1_ zm2_ zm3_ zm4_ zm5_ zm6_ zm7_ zm8_ zm9_ zna_ znb_ znc_ znd_ zne_ znf_ zng_ znh_ zni_ znj_ znk_ znl_ znm_ znn_ zno_ znp_ znq_ znr_ zns_ znt_ znu_ znv_ znw_ znx_ zny_ znz_ zn0_ zn1_ zn2_ zn3_ zn4_ zn5_ zn6_ zn7_ zn8_ zn9_ zoa_ zob_ zoc_ zod_ zoe_ zof_ zog_ zoh_ zoi_ zoj_ zok_ zol_ zom_ zon_ zoo_ zop_ zoq_ zor_ zos_ zot_ zou_ zov_ zow_ zox_ zoy_ zoz_ zo0_ zo1_ zo2_ zo3_ zo4_ zo5_ zo6_ zo7_ zo8_ zo9_ zpa_ zpb_ zpc_ zpd_ zpe_ zpf_ zpg_ zph_ zpi_ zpj_ zpk_ zpl_ zpm_ zpn_ zpo_ zpp_ zpq_ zpr_ zps_ zpt_ zpu_ zpv_ zpw_ zpx_ zpy_ zpz_ zp0_ zp1_ zp2_ zp3_ zp4_ zp5_ zp6_ zp7_ zp8_ zp9_ zqa_ zqb_ zqc_ zqd_ zqe_ zqf_ zqg_ zqh_ zqi_ zqj_ zqk_ zql_ zqm_ zqn_ zqo_ zqp_ zqq_ zqr_ zqs_ zqt_ zqu_ zqv_ zqw_ zqx_ zqy_ zqz_ zq0_ zq1_ zq2_ zq3_ zq4_ zq5_ zq6_ zq7_ zq8_ zq9_ zra_ zrb_ zrc_ zrd_ zre_ zrf_ zrg_ zrh_ zri_ zrj_ zrk_ zrl_ zrm_ zrn_ zro_ zrp_ zrq_ zrr_ zrs_ zrt_ zru_ zrv_ zrw_ zrx_ zry_ zrz_ zr0_ zr1_ zr2_ zr3_ zr4_ zr5_ zr6_ zr7_ zr8_ zr9_ zsa_ zsb_ zsc_ zsd_ zse_ zsf_ zsg_ zsh_ zsi_ zsj_ zsk_ zsl_ zsm_ zsn_ zso_ zsp_ zsq_ zsr_ zss_ zst_ zsu_ zsv_ zsw_ zsx_ zsy_ zsz_ zs0_ zs1_ zs2_ zs3_ zs4_ zs5_ zs6_ zs7_ zs8_ zs9_ zta_ ztb_ ztc_ ztd_ zte_ ztf_ ztg_ zth_ zti_ ztj_ ztk_ ztl_ ztm_ ztn_ zto_ ztp_ ztq_ ztr_ zts_ ztt_ ztu_ ztv_ ztw_ ztx_ zty_ ztz_ zt0_ zt1_ zt2_ zt3_ zt4_ zt5_ zt6_ zt7_ zt8_ zt9_ zua_ zub_ zuc_ zud_ zue_ zuf_ zug_ zuh_ zui_ zuj_ zuk_ zul_ zum_ zun_ zuo_ zup_ zuq_ zur_ zus_ zut_ zuu_ zuv_ zuw_ zux_ zuy_ zuz_ zu0_ zu1_ zu2_ zu3_ zu4_ zu5_ zu6_ zu7_ zu8_ zu9_ zva_ zvb_ zvc_ zvd_ zve_ zvf_ zvg_ zvh_ zvi_ zvj_ zvk_ zvl_ zvm_ zvn_ zvo_ zvp_ zvq_ zvr_ zvs_ zvt_ zvu_ zvv_ zvw_ zvx_ zvy_ zvz_ zv0_ zv1_ zv2_ zv3_ zv4_ zv5_ zv6_ zv7_ zv8_ zv9_ zwa_ zwb_ zwc_ zwd_ zwe_ zwf_ zwg_ zwh_ zwi_ zwj_ zwk_ zwl_ zwm_ zwn_ zwo_ zwp_ zwq_ zwr_ zws_ zwt_ zwu_ zwv_ zww_ zwx_ zwy_ zwz_ zw0_ zw1_ zw2_ zw3_ zw4_ zw5_ zw6_ zw7_ zw8_ zw9_ zxa_ zxb_ zxc_ HO_23 HB kj18 HJ18 HC75 zxd_ zxe_ wc u6 u31 u32 u33 u34 u35 u36 u37 u38 u39 u65 u66 u67 u68 u69 u70 u71 u72 u73 u74 u75 u76 u77 u78 u79 u80 u81 u82 u83 u84 u85 u86 u87 u88 u89 u90 u91 u92 u93 u94 u95 u96 u97 u98 u99 u100 u101 u102 u103 u104 u105 u106 u107 u108 u109 u110 u111 u112 u113 u114 u115 u116 u117 u118 u119 u120 u121 u122 u123 u124 u125 u126 u127 u128 u129 u130 u131 u132 u133 u134 u135 u136 u137 u138 u139 u140 u141 u142 u143 u144 u145 u146 u147 u148 u149 u150 u151 u152 u153 u154 u155 u156 u157 u158 u159 u160 u161 u162 u163 u164 u165 u166 u167 u168 u169 u170 u171 u172 u173 u174 u175 u176 u177 u178 u179 u180 u181 u182 u183 u184 u185 u186 u187 u188 u189 u190 u191 u192 u193 u194 u195 u196 u197 u198 u199 u200 u201 u202 u203 u204 u205 u206 u207 u208 u209 u210 u211 u212 u213 u214 u215 u216 u217 u218 u219 u220 u221 u222 u223 u224 u225 u226 u227 u228 u229 u230 u231 u232 u233 u234 u235 u236 u237 u238 u239 u240 u241 u242 u243 u244 u245 u246 u247 u248 u249 u250 u251 u252 u253 u254 u255 u256 u257 u258 u259 u260 u261 u262 u263 u264 u265 u266 u267 u268 u269 u270 u271 u272 u273 u274 u275 u276 u277 u278 u279 u280 u281 u282 u283 u284 u285 u286 u287 u288 u289 u290 u291 u292 u293 u294 u295 u296 u297 u298 u299 u300 u301 u302 u303 u304 u305 u306 u307 u308 u309 u310 u311 u312 u313 u314 u315 u316 u317 u318 u319 u320 u321 u322 u323 u324 u325 u326 u327 u328 u329 u330 u331 u332 u333 u334 u335 u336 u337 u338 u339 u340 u341 u342 u343 u344 u345 u346 u347 u348 u349 u350 u351 u352 u353 u354 u355 u356 u357 u358 u359 u360 u361 u362 u363 u364 u365 u366 u367 u368 u369 u370 u371 u372 u373 u374 u375 u376 u377 u378 u379 u380 u381 u382 u383 u384 u385 u386 u387 u388 u389 u390 u391 u392 u393 u394 u395 u396 u397 u398 u399 u400 u401 u402 u403 u404 u405 u406 u407 u408 u409 u410 u411 u412 u413 u414 u415 u416 u417 u418 u419 u420 u421 u422 u423 u424 u425 u426 u427 u428 u429 u430 u431 u432 u433 u434 u435 u436 u437 u438 u439 u440 u441 u442 u443 u444 u445 u446 u447 u448 u449 u450 u451 u452 u453 u454 u455 u456 u457 u458 u459 u460 u461 u462 u463 u464 u465 u466 u467 u468 u469 u470 u471 u472 u473 u474 u475 u476 u477 u478 hcut
      exact hrest_.out
end Go.Proofs.YtbmbehkdidlolaaGreatDoor.PT
