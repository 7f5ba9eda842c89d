/- spilelaw01.SpanRows: both places are noted, and what follows. -/
import Derived.Test.YtfohdafijfjefaaRowsC

section
set_option linter.unusedSimpArgs false
set_option linter.unusedVariables false
namespace Go.Proofs.Ytfohdafijfjefaa
open Go.RowKit Go.Shelf

noncomputable def tail15 : Code := dropC 15 (bodyC Try.f9)
set_option maxRecDepth 100000
set_option maxHeartbeats 40000000
theorem rows_B2 {z0 z1 z2 z3 z4 z5 z6 z8 z9 z16 z18 z20 z22 z23 z26 z27 z28 z29 z30 z31 z32 z33 z34 z35 z36 z37 z38 z39 z40 z41 z42 z43 z44 z45 z46 z47 z48 z49 z50 z51 z52 z53 z54 z55 z56 z57 z58 z59 z60 z61 z62 z63 z64 z65 z66 z67 z68 z69 z70 z71 z72 z73 z74 z75 z76 z77 z78 z79 z80 z81 z82 z83 z84 z85 z86 z87 z88 z89 z90 z91 z92 z93 z94 z95 z96 z97 z98 z99 z100 z101 z102 z103 z104 z105 z106 z107 z108 z109 z110 z111 z112 z113 z114 z115 z116 z117 z118 z119 z120 z121 z122 z123 z124 z125 z126 z127 z128 z129 z130 z131 z132 z133 z134 z135 z136 z137 z138 z139 z140 z141 z142 z143 z144 z145 z146 z147 z148 z149 z150 z151 z152 z153 z154 z155 z156 z157 z158 z159 z160 z161 z162 z163 z164 z165 z166 z167 z168 z169 z170 z171 z172 z173 z174 z175 z176 z177 z178 z179 z180 z181 z182 z183 z184 z185 z186 z187 z188 z189 z190 z191 z192 z193 z194 z195 z196 z197 z198 z199 z200 z201 z202 z203 z204 z205 z206 z207 z208 z209 z210 z211 z212 z213 z214 z215 z216 z217 z218 z219 z220 z221 z222 z223 z224 z225 z226 z227 z228 z229 z230 z231 z232 z233 z234 z235 z236 z237 z238 z239 z240 z241 z242 z243 z244 z245 z246 z247 z248 z249 z250 z251 z252 z253 z254 z255 z256 z257 z258 z259 z260 z261 z262 z263 z264 z265 z266 z267 z268 z269 z270 z271 z272 z273 z274 z275 z276 z277 z278 z279 z280 z281 z282 z283 z284 z285 z286 z287 z288 z289 z290 z291 z292 z293 z294 z295 z296 z297 z298 z299 z300 z301 z302 z303 z304 z305 z306 z307 z308 z309 z310 z311 z312 z313 z314 z315 z316 z317 z318 z319 z320 z321 z322 z323 z324 z325 z326 z327 z328 z329 z330 z331 z332 z333 z334 z335 z336 z337 z338 z339 z340 z341 z342 z343 z344 z345 z346 z347 z348 z349 z350 z351 z352 z353 z354 z355 z356 z357 z358 z359 z360 z361 z362 z363 z364 z365 z366 z367 z368 z369 z370 z371 z372 z373 z374 z375 z376 z377 z378 z379 z380 z381 z382 z383 z384 z385 z386 z387 z388 z389 : Value} (n : Nat) (t P : List R) (a b r0 r1 v0 v1 u0 u1 fx lx : Int) (q : Nat) (RA : RowsAt t a b) (hfx : firstX t = fx) (hlx : lastX t = lx) (hv : valS t a = ⟨v0, v1⟩) (hu : valS t b = ⟨u0, u1⟩) (hP : whF t ⟨r0, r1⟩ (t.length - 1) = P) (hq : P.length = q)
    (hr : -32768 ≤ r0 ∧ r0 ≤ r1 ∧ r1 ≤ 32767) (hlt : t.length = n) (h2 : 2 ≤ n) (h12 : n ≤ 12) (m0 m1 : Int) (hm : valsF t ⟨a, b⟩ t.length = ⟨m0, m1⟩) (w w1 : World) (hB1 : Below w.heap.size w w1) (p14 p15 p17 p19 p24 p25 g c7 c5 : Nat) (A5 : Option Addr)
    (f1_b0_0 : w1.cell? ⟨p14, 0, none⟩ = some (.int .i64 r0)) (f1_b0_1 : w1.cell? ⟨p14, 1, none⟩ = some (.int .i64 r1)) (f1_b1_0 : w1.cell? ⟨p15, 0, none⟩ = some (.int .i64 v0)) (f1_b1_1 : w1.cell? ⟨p15, 1, none⟩ = some (.int .i64 v1)) (f1_b2_0 : w1.cell? ⟨p17, 0, none⟩ = some (.int .i64 u0)) (f1_b2_1 : w1.cell? ⟨p17, 1, none⟩ = some (.int .i64 u1))
    (f1_b3_0 : w1.cell? ⟨p19, 0, none⟩ = some (.int .i64 m0)) (f1_b3_1 : w1.cell? ⟨p19, 1, none⟩ = some (.int .i64 m1)) (l1_3 : p19 < w1.heap.size) (f1_b4_0 : w1.cell? ⟨p24, 0, none⟩ = some (.int .i64 a)) (f1_b4_1 : w1.cell? ⟨p24, 1, none⟩ = some (.int .i64 b)) (f1_b5_0 : w1.cell? ⟨p25, 0, none⟩ = some (.int .i64 v0)) (f1_b5_1 : w1.cell? ⟨p25, 1, none⟩ = some (.int .i64 v1)) (f1_b5_2 : w1.cell? ⟨p25, 2, none⟩ = some (.int .i64 u0)) (f1_b5_3 : w1.cell? ⟨p25, 3, none⟩ = some (.int .i64 u1)) (l1_4 : p24 < w1.heap.size) (l1_5 : p25 < w1.heap.size) (l1_0 : p14 < w1.heap.size) (l1_1 : p15 < w1.heap.size) (l1_2 : p17 < w1.heap.size) (ht : Ranges w1 0 (some ⟨g, 0, none⟩) t) (hP5 : Ranges w1 0 A5 P) :
    Code.wp Try.prog tail15 (bodyPost Try.prog Try.f9 fun e w' => e = .returned (.bool true) ∧ Below w.heap.size w w') ⟨List.toArray [z0, z1, z2, z3, z4, z5, z6, rowV g n c7, z8, z9, .int .i64 fx, .int .i64 lx, .int .i64 a, .int .i64 b, .pointer (some ⟨p14, 0, none⟩), .pointer (some ⟨p15, 0, none⟩), z16, .pointer (some ⟨p17, 0, none⟩), z18, .pointer (some ⟨p19, 0, none⟩), z20, .slice A5 q c5, z22, z23, .pointer (some ⟨p24, 0, none⟩), .pointer (some ⟨p25, 0, none⟩), z26, z27, z28, z29, z30, z31, z32, z33, z34, z35, z36, z37, z38, z39, z40, z41, z42, z43, z44, z45, z46, z47, z48, z49, z50, z51, z52, z53, z54, z55, z56, z57, z58, z59, z60, z61, z62, z63, z64, z65, z66, z67, z68, z69, z70, z71, z72, z73, z74, z75, z76, z77, z78, z79, z80, z81, z82, z83, z84, z85, z86, z87, z88, z89, z90, z91, z92, z93, z94, z95, z96, z97, z98, z99, z100, z101, z102, z103, z104, z105, z106, z107, z108, z109, z110, z111, z112, z113, z114, z115, z116, z117, z118, z119, z120, z121, z122, z123, z124, z125, z126, z127, z128, z129, z130, z131, z132, z133, z134, z135, z136, z137, z138, z139, z140, z141, z142, z143, z144, z145, z146, z147, z148, z149, z150, z151, z152, z153, z154, z155, z156, z157, z158, z159, z160, z161, z162, z163, z164, z165, z166, z167, z168, z169, z170, z171, z172, z173, z174, z175, z176, z177, z178, z179, z180, z181, z182, z183, z184, z185, z186, z187, z188, z189, z190, z191, z192, z193, z194, z195, z196, z197, z198, z199, z200, z201, z202, z203, z204, z205, z206, z207, z208, z209, z210, z211, z212, z213, z214, z215, z216, z217, z218, z219, z220, z221, z222, z223, z224, z225, z226, z227, z228, z229, z230, z231, z232, z233, z234, z235, z236, z237, z238, z239, z240, z241, z242, z243, z244, z245, z246, z247, z248, z249, z250, z251, z252, z253, z254, z255, z256, z257, z258, z259, z260, z261, z262, z263, z264, z265, z266, z267, z268, z269, z270, z271, z272, z273, z274, z275, z276, z277, z278, z279, z280, z281, z282, z283, z284, z285, z286, z287, z288, z289, z290, z291, z292, z293, z294, z295, z296, z297, z298, z299, z300, z301, z302, z303, z304, z305, z306, z307, z308, z309, z310, z311, z312, z313, z314, z315, z316, z317, z318, z319, z320, z321, z322, z323, z324, z325, z326, z327, z328, z329, z330, z331, z332, z333, z334, z335, z336, z337, z338, z339, z340, z341, z342, z343, z344, z345, z346, z347, z348, z349, z350, z351, z352, z353, z354, z355, z356, z357, z358, z359, z360, z361, z362, z363, z364, z365, z366, z367, z368, z369, z370, z371, z372, z373, z374, z375, z376, z377, z378, z379, z380, z381, z382, z383, z384, z385, z386, z387, z388, z389], []⟩ w1 := by
  have hfa := RA.h1
  have hab := RA.h2
  have hbl := RA.h3
  have HQ : Aside (P.length = q) := hq
  have hPl : q ≤ 11 := by rw [← hq, ← hP]; have := wh_len t ⟨r0, r1⟩ (t.length - 1); omega
  have hPe : Aside (∀ j, j < q → fx ≤ (P[j]?.getD R.d).lo ∧ (P[j]?.getD R.d).lo ≤ (P[j]?.getD R.d).hi ∧ (P[j]?.getD R.d).hi ≤ lx) := by
    intro j hj
    rw [← hfx, ← hlx]
    refine RA.ends' ⟨r0, r1⟩ (P[j]?.getD R.d) ?_
    rw [hP, List.getElem?_eq_getElem (by omega)]
    exact List.getElem_mem _
  have hma : Aside (hasF P a = (decide (r0 ≤ v0) && decide (v1 ≤ r1))) := by
    rw [hasF_mem, ← hP, Bool.and_eq_decide]
    have := RA.mem ⟨r0, r1⟩ a hfa (by omega)
    rw [hv] at this
    exact decide_eq_decide.2 (this.trans (by unfold inY; simp))
  have hmb : Aside (hasF P b = (decide (r0 ≤ u0) && decide (u1 ≤ r1))) := by
    rw [hasF_mem, ← hP, Bool.and_eq_decide]
    have := RA.mem ⟨r0, r1⟩ b (by omega) hbl
    rw [hu] at this
    exact decide_eq_decide.2 (this.trans (by unfold inY; simp))
  have hR : tail16 = dropC 1 tail15 := (dropC_add 1 15 _).symm
  refine wp_tail 1 hR ?_
  conv => arg 2; simp only [tail15, bodyC, Try.f9, Option.getD_some, dropC, mkC]
  go_wp2_with fail
  go_loopg [26] (2) (fun gg i wr => ∃ j : Nat, j ≤ 2 ∧ 2 - j ≤ gg ∧ i = .int .i64 j ∧ Aside (Below w1.heap.size w1 wr))
  case atStart => exact ⟨0, Nat.zero_le _, Nat.le_refl _, rfl, Below.refl _ _⟩
  case round =>
    obtain ⟨j, hj, hg, rfl, I2⟩ := hrel
    obtain ⟨w2, hw2⟩ : ∃ x, x = wr := ⟨_, rfl⟩
    subst hw2
    have hb2 : Below w1.heap.size w1 w2 := I2.out
    have hI2 := hb2
    clear I2
    have hz2 := hb2.size
    (try simp only [World.size_alloc, World.size_setCell, World.size_drew] at hz2)
    have hB1_2 : Below w1.heap.size w1 w2 := ub0 (Below.refl _ _) hb2
    have f2_b0_0 := up0 hb2 (by omega) f1_b0_0
    have f2_b0_1 := up0 hb2 (by omega) f1_b0_1
    have f2_b1_0 := up0 hb2 (by omega) f1_b1_0
    have f2_b1_1 := up0 hb2 (by omega) f1_b1_1
    have f2_b2_0 := up0 hb2 (by omega) f1_b2_0
    have f2_b2_1 := up0 hb2 (by omega) f1_b2_1
    have f2_b3_0 := up0 hb2 (by omega) f1_b3_0
    have f2_b3_1 := up0 hb2 (by omega) f1_b3_1
    have f2_b4_0 := up0 hb2 (by omega) f1_b4_0
    have f2_b4_1 := up0 hb2 (by omega) f1_b4_1
    have f2_b5_0 := up0 hb2 (by omega) f1_b5_0
    have f2_b5_1 := up0 hb2 (by omega) f1_b5_1
    have f2_b5_2 := up0 hb2 (by omega) f1_b5_2
    have f2_b5_3 := up0 hb2 (by omega) f1_b5_3
    have hB2 : Below w.heap.size w w2 := ub0 (hB1) hb2
    clear hb2 hB1 f1_b0_0 f1_b0_1 f1_b1_0 f1_b1_1 f1_b2_0 f1_b2_1 f1_b3_0 f1_b3_1 f1_b4_0 f1_b4_1 f1_b5_0 f1_b5_1 f1_b5_2 f1_b5_3
    have l2_0 : p14 < w2.heap.size := by omega
    have l2_1 : p15 < w2.heap.size := by omega
    have l2_2 : p17 < w2.heap.size := by omega
    have l2_3 : p19 < w2.heap.size := by omega
    have l2_4 : p24 < w2.heap.size := by omega
    have l2_5 : p25 < w2.heap.size := by omega
    clear l1_0 l1_1 l1_2 l1_3 l1_4 l1_5
    by_cases hlt2 : j < 2
    · skip
      have hltz : (j : Int) < 2 := by omega
      have hj0 : (0 : Int) ≤ (j : Int) := Int.natCast_nonneg _
      obtain ⟨z, q0, q1, ez, eq0, eq1, hz⟩ : ∃ z q0 q1, w2.cell? ⟨p24, j, none⟩ = some (.int .i64 z) ∧ w2.cell? ⟨p25, j * 2, none⟩ = some (.int .i64 q0) ∧ w2.cell? ⟨p25, j * 2 + 1, none⟩ = some (.int .i64 q1) ∧ hasF P z = (decide (r0 ≤ q0) && decide (q1 ≤ r1)) := by
        have hj2 : j = 0 ∨ j = 1 := by omega
        rcases hj2 with rfl | rfl
        · exact ⟨a, v0, v1, f2_b4_0, f2_b5_0, f2_b5_1, hma.out⟩
        · exact ⟨b, u0, u1, f2_b4_1, f2_b5_2, f2_b5_3, hmb.out⟩
      have Hz := Lib.hid hz
      clear hz hma hmb RA hfx hlx hv hu hP hq hr hm hR
      have lk24 : p24 < w2.heap.size := by omega
      have lk25 : p25 < w2.heap.size := by omega
      go_wp2_with fail
      go_loopg [27, 28] (q) (fun gg s27 s28 wr => ∃ m : Nat, m ≤ q ∧ q - m ≤ gg ∧ s27 = .bool (hasF (P.take m) z) ∧ s28 = .int .i64 m ∧ Aside (Below w2.heap.size w2 wr))
      case atStart => exact ⟨0, Nat.zero_le _, Nat.le_refl _, rfl, rfl, Below.refl _ _⟩
      case round =>
        obtain ⟨m, hmq, hg2, rfl, rfl, I3⟩ := hrel
        obtain ⟨w3, hw3⟩ : ∃ x, x = wr := ⟨_, rfl⟩
        subst hw3
        have hb3 : Below w2.heap.size w2 w3 := I3.out
        have hI3 := hb3
        clear I3
        have hz3 := hb3.size
        (try simp only [World.size_alloc, World.size_setCell, World.size_drew] at hz3)
        have hB1_3 : Below w1.heap.size w1 w3 := ub0 (hB1_2) hb3
        clear hB1_2
        have f3_b0_0 := up0 hb3 (by omega) f2_b0_0
        have f3_b0_1 := up0 hb3 (by omega) f2_b0_1
        have f3_b1_0 := up0 hb3 (by omega) f2_b1_0
        have f3_b1_1 := up0 hb3 (by omega) f2_b1_1
        have f3_b2_0 := up0 hb3 (by omega) f2_b2_0
        have f3_b2_1 := up0 hb3 (by omega) f2_b2_1
        have f3_b3_0 := up0 hb3 (by omega) f2_b3_0
        have f3_b3_1 := up0 hb3 (by omega) f2_b3_1
        have f3_b4_0 := up0 hb3 (by omega) f2_b4_0
        have f3_b4_1 := up0 hb3 (by omega) f2_b4_1
        have f3_b5_0 := up0 hb3 (by omega) f2_b5_0
        have f3_b5_1 := up0 hb3 (by omega) f2_b5_1
        have f3_b5_2 := up0 hb3 (by omega) f2_b5_2
        have f3_b5_3 := up0 hb3 (by omega) f2_b5_3
        have hB3 : Below w.heap.size w w3 := ub0 (hB2) hb3
        clear hb3 hB2 f2_b0_0 f2_b0_1 f2_b1_0 f2_b1_1 f2_b2_0 f2_b2_1 f2_b3_0 f2_b3_1 f2_b4_0 f2_b4_1 f2_b5_0 f2_b5_1 f2_b5_2 f2_b5_3
        have l3_0 : p14 < w3.heap.size := by omega
        have l3_1 : p15 < w3.heap.size := by omega
        have l3_2 : p17 < w3.heap.size := by omega
        have l3_3 : p19 < w3.heap.size := by omega
        have l3_4 : p24 < w3.heap.size := by omega
        have l3_5 : p25 < w3.heap.size := by omega
        clear l2_0 l2_1 l2_2 l2_3 l2_4 l2_5
        have lm24 : p24 < w3.heap.size := by have := hI3.size; omega
        have lm25 : p25 < w3.heap.size := by have := hI3.size; omega
        by_cases hltm : m < q
        · skip
          have hltzm : (m : Int) < (q : Int) := by omega
          have hm0 : (0 : Int) ≤ (m : Int) := Int.natCast_nonneg _
          obtain ⟨b5, o5, rfl, _, hlb5, hc5⟩ := hP5 (by rw [HQ.out]; omega)
          have x0 := (hB1_3.cell (p := ⟨b5, o5 + m * 2 + 0, none⟩) hlb5).trans (hc5 m 0 (by rw [HQ.out]; omega) (by omega))
          have x1 := (hB1_3.cell (p := ⟨b5, o5 + m * 2 + 1, none⟩) hlb5).trans (hc5 m 1 (by rw [HQ.out]; omega) (by omega))
          have hpe := hPe.out m hltm
          have hsn := hasF_snoc P z m (by rw [HQ.out]; omega)
          have hz1 := hB1_3.size
          have hb5w : b5 < w3.heap.size := by omega
          generalize P[m]?.getD R.d = s at x0 x1 hpe hsn
          obtain ⟨x, y⟩ := s
          simp only [R.cell, Nat.add_zero, if_true, Nat.one_ne_zero, if_false] at x0 x1 hpe hsn
          have t1 : ¬ x < fx := by omega
          have t2 : ¬ lx < y := by omega
          have Hsn := Lib.hid hsn
          clear hsn hc5
          have ez3 := (hI3.cell (p := ⟨p24, j, none⟩) (by show p24 < _; omega)).trans ez
          generalize hfl : hasF (P.take m) z = fl at *
          cases fl with
          | true =>
            go_wp2_with fail
            go_quiet (fail)
            generalize hq4 : World.drewN w3 _ = w4
            have hb4 := drawnB hq4
            clear hq4
            have hRR := hb4
            have hz4 := hb4.size
            (try simp only [World.size_alloc, World.size_setCell, World.size_drew] at hz4)
            have hB1_4 : Below w1.heap.size w1 w4 := ub0 (hB1_3) hb4
            clear hB1_3
            have f4_b0_0 := up0 hb4 (by omega) f3_b0_0
            have f4_b0_1 := up0 hb4 (by omega) f3_b0_1
            have f4_b1_0 := up0 hb4 (by omega) f3_b1_0
            have f4_b1_1 := up0 hb4 (by omega) f3_b1_1
            have f4_b2_0 := up0 hb4 (by omega) f3_b2_0
            have f4_b2_1 := up0 hb4 (by omega) f3_b2_1
            have f4_b3_0 := up0 hb4 (by omega) f3_b3_0
            have f4_b3_1 := up0 hb4 (by omega) f3_b3_1
            have f4_b4_0 := up0 hb4 (by omega) f3_b4_0
            have f4_b4_1 := up0 hb4 (by omega) f3_b4_1
            have f4_b5_0 := up0 hb4 (by omega) f3_b5_0
            have f4_b5_1 := up0 hb4 (by omega) f3_b5_1
            have f4_b5_2 := up0 hb4 (by omega) f3_b5_2
            have f4_b5_3 := up0 hb4 (by omega) f3_b5_3
            have hB4 : Below w.heap.size w w4 := ub0 (hB3) hb4
            clear hb4 hB3 f3_b0_0 f3_b0_1 f3_b1_0 f3_b1_1 f3_b2_0 f3_b2_1 f3_b3_0 f3_b3_1 f3_b4_0 f3_b4_1 f3_b5_0 f3_b5_1 f3_b5_2 f3_b5_3
            have l4_0 : p14 < w4.heap.size := by omega
            have l4_1 : p15 < w4.heap.size := by omega
            have l4_2 : p17 < w4.heap.size := by omega
            have l4_3 : p19 < w4.heap.size := by omega
            have l4_4 : p24 < w4.heap.size := by omega
            have l4_5 : p25 < w4.heap.size := by omega
            clear l3_0 l3_1 l3_2 l3_3 l3_4 l3_5
            replace x0 := (hRR.cell (p := ⟨b5, o5 + m * 2, none⟩) hb5w).trans x0
            replace x1 := (hRR.cell (p := ⟨b5, o5 + m * 2 + 1, none⟩) hb5w).trans x1
            go_wp2
            go_roundg (q - (m + 1))
            case measure => omega
            case rel => exact ⟨m + 1, by omega, by omega, by rw [Hsn.out]; rfl, by go_num, hI3.trans (hRR.mono (Below.size hI3))⟩
          | false =>
            have qh := fun W => has_any x y z W
            have hAll4 : Aside (∀ W, Below w3.heap.size w3 W → (Below w3.heap.size w3 W ∧ W.cell? ⟨p14, 0, none⟩ = some (.int .i64 r0) ∧ W.cell? ⟨p14, 1, none⟩ = some (.int .i64 r1) ∧ W.cell? ⟨p15, 0, none⟩ = some (.int .i64 v0) ∧ W.cell? ⟨p15, 1, none⟩ = some (.int .i64 v1) ∧ W.cell? ⟨p17, 0, none⟩ = some (.int .i64 u0) ∧ W.cell? ⟨p17, 1, none⟩ = some (.int .i64 u1) ∧ W.cell? ⟨p19, 0, none⟩ = some (.int .i64 m0) ∧ W.cell? ⟨p19, 1, none⟩ = some (.int .i64 m1) ∧ W.cell? ⟨p24, 0, none⟩ = some (.int .i64 a) ∧ W.cell? ⟨p24, 1, none⟩ = some (.int .i64 b) ∧ W.cell? ⟨p25, 0, none⟩ = some (.int .i64 v0) ∧ W.cell? ⟨p25, 1, none⟩ = some (.int .i64 v1) ∧ W.cell? ⟨p25, 2, none⟩ = some (.int .i64 u0) ∧ W.cell? ⟨p25, 3, none⟩ = some (.int .i64 u1) ∧ W.cell? ⟨p24, j, none⟩ = some (.int .i64 z) ∧ W.cell? ⟨b5, o5 + m * 2, none⟩ = some (.int .i64 x) ∧ W.cell? ⟨b5, o5 + m * 2 + 1, none⟩ = some (.int .i64 y))) := fun W hT => ⟨hT, (hT.cell (p := ⟨p14, 0, none⟩) (by show p14 < _; omega)).trans f3_b0_0, (hT.cell (p := ⟨p14, 1, none⟩) (by show p14 < _; omega)).trans f3_b0_1, (hT.cell (p := ⟨p15, 0, none⟩) (by show p15 < _; omega)).trans f3_b1_0, (hT.cell (p := ⟨p15, 1, none⟩) (by show p15 < _; omega)).trans f3_b1_1, (hT.cell (p := ⟨p17, 0, none⟩) (by show p17 < _; omega)).trans f3_b2_0, (hT.cell (p := ⟨p17, 1, none⟩) (by show p17 < _; omega)).trans f3_b2_1, (hT.cell (p := ⟨p19, 0, none⟩) (by show p19 < _; omega)).trans f3_b3_0, (hT.cell (p := ⟨p19, 1, none⟩) (by show p19 < _; omega)).trans f3_b3_1, (hT.cell (p := ⟨p24, 0, none⟩) (by show p24 < _; omega)).trans f3_b4_0, (hT.cell (p := ⟨p24, 1, none⟩) (by show p24 < _; omega)).trans f3_b4_1, (hT.cell (p := ⟨p25, 0, none⟩) (by show p25 < _; omega)).trans f3_b5_0, (hT.cell (p := ⟨p25, 1, none⟩) (by show p25 < _; omega)).trans f3_b5_1, (hT.cell (p := ⟨p25, 2, none⟩) (by show p25 < _; omega)).trans f3_b5_2, (hT.cell (p := ⟨p25, 3, none⟩) (by show p25 < _; omega)).trans f3_b5_3, (hT.cell (p := ⟨p24, j, none⟩) (by show p24 < _; omega)).trans ez3, (hT.cell (p := ⟨b5, o5 + m * 2, none⟩) hb5w).trans x0, (hT.cell (p := ⟨b5, o5 + m * 2 + 1, none⟩) hb5w).trans x1⟩
            go_upto_region 28 with (fail)
            go_cut [27] (fun s27 wx => s27 = .bool (decide (x ≤ z) && decide (z ≤ y)) ∧ Aside (Below w3.heap.size w3 wx ∧ True))
            case first =>
              refine wp_region_held_drew (S := fun W => Below w3.heap.size w3 W ∧ W.cell? ⟨p14, 0, none⟩ = some (.int .i64 r0) ∧ W.cell? ⟨p14, 1, none⟩ = some (.int .i64 r1) ∧ W.cell? ⟨p15, 0, none⟩ = some (.int .i64 v0) ∧ W.cell? ⟨p15, 1, none⟩ = some (.int .i64 v1) ∧ W.cell? ⟨p17, 0, none⟩ = some (.int .i64 u0) ∧ W.cell? ⟨p17, 1, none⟩ = some (.int .i64 u1) ∧ W.cell? ⟨p19, 0, none⟩ = some (.int .i64 m0) ∧ W.cell? ⟨p19, 1, none⟩ = some (.int .i64 m1) ∧ W.cell? ⟨p24, 0, none⟩ = some (.int .i64 a) ∧ W.cell? ⟨p24, 1, none⟩ = some (.int .i64 b) ∧ W.cell? ⟨p25, 0, none⟩ = some (.int .i64 v0) ∧ W.cell? ⟨p25, 1, none⟩ = some (.int .i64 v1) ∧ W.cell? ⟨p25, 2, none⟩ = some (.int .i64 u0) ∧ W.cell? ⟨p25, 3, none⟩ = some (.int .i64 u1) ∧ W.cell? ⟨p24, j, none⟩ = some (.int .i64 z) ∧ W.cell? ⟨b5, o5 + m * 2, none⟩ = some (.int .i64 x) ∧ W.cell? ⟨b5, o5 + m * 2 + 1, none⟩ = some (.int .i64 y)) (by kernel_rfl) (hAll4.out _ (by repeat (first | (with_reducible assumption) | exact Below.refl _ _ | (with_reducible refine ua1 ?_) | (with_reducible refine Below.setCell ?_ (by first | omega | (simp <;> omega)) _) | (with_reducible refine Below.drew ?_)))) (fun hS0 => ?_)
              refine wpAnyH_take (i := 0) (v := ?_) rfl (by kernel_rfl) (by kernel_rfl) (by kernel_rfl) (fun _ _ _ h => h) (Or.inl ⟨by rfl, ?_⟩) hS0 ?_
              rotate_left
              · (intro W _; go_simp; (try with_reducible rfl))
              (try go_simp)
              refine wpAnyH_take (i := 1) (v := ?_) rfl (by kernel_rfl) (by kernel_rfl) (by kernel_rfl) (fun _ _ _ h => h) (Or.inl ⟨by rfl, ?_⟩) hS0 ?_
              rotate_left
              · (intro W _; go_simp; (try with_reducible rfl))
              (try go_simp)
              refine wpAnyH_take (i := 2) (v := ?_) rfl (by kernel_rfl) (by kernel_rfl) (by kernel_rfl) (fun _ _ _ h => h) (Or.inl ⟨by rfl, ?_⟩) hS0 ?_
              rotate_left
              · (intro W _; go_simp; (try with_reducible rfl))
              (try go_simp)
              refine wpAnyH_take (i := 3) (v := ?_) rfl (by kernel_rfl) (by kernel_rfl) (by kernel_rfl) (fun _ _ _ h => h) (Or.inl ⟨by rfl, ?_⟩) hS0 ?_
              rotate_left
              · (intro W _; go_simp; (try with_reducible rfl))
              (try go_simp)
              refine wpAnyH_take (i := 4) (v := ?_) rfl (by kernel_rfl) (by kernel_rfl) (by kernel_rfl) (fun _ _ _ h => h) (Or.inl ⟨by rfl, ?_⟩) hS0 ?_
              rotate_left
              · (intro W _; go_simp; (try with_reducible rfl))
              (try go_simp)
              refine wpAnyH_take (i := 5) (v := ?_) rfl (by kernel_rfl) (by kernel_rfl) (by kernel_rfl) (fun _ _ _ h => h) (Or.inl ⟨by rfl, ?_⟩) hS0 ?_
              rotate_left
              · (intro W hSw; (try dsimp only at hSw); go_split_ands; go_simp; (try with_reducible rfl))
              (try go_simp)
              refine wpAnyH_take (i := 6) (v := ?_) rfl (by kernel_rfl) (by kernel_rfl) (by kernel_rfl) (fun _ _ _ h => h) (Or.inl ⟨by rfl, ?_⟩) hS0 ?_
              rotate_left
              · (intro W _; go_simp; (try with_reducible rfl))
              (try go_simp)
              refine wpAnyH_take (i := 7) (v := ?_) rfl (by kernel_rfl) (by kernel_rfl) (by kernel_rfl) (fun _ _ _ h => h) (Or.inl ⟨by rfl, ?_⟩) hS0 ?_
              rotate_left
              · (intro W _; go_simp; (try with_reducible rfl))
              (try go_simp)
              refine wpAnyH_take (i := 8) (v := ?_) rfl (by kernel_rfl) (by kernel_rfl) (by kernel_rfl) (fun _ _ _ h => h) (Or.inl ⟨by rfl, ?_⟩) hS0 ?_
              rotate_left
              · (intro W hSw; (try dsimp only at hSw); go_split_ands; go_simp; (try with_reducible rfl))
              (try go_simp)
              refine wpAnyH_ready (rs := [9]) (by kernel_rfl) (by simp) ?_
              refine (AllReadyH.cons rfl (fun K hK => ?_) AllReadyH.nil)
              go_simp
              go_wp2_with (go_at_call 65; refine (qh _).mono ?_; rintro e wq ⟨rfl, hbq⟩; have hTq : Below w3.heap.size w3 wq := below_call (by repeat (first | (with_reducible assumption) | exact Below.refl _ _ | (with_reducible refine ua1 ?_) | (with_reducible refine Below.setCell ?_ (by first | omega | (simp <;> omega)) _) | (with_reducible refine Below.drew ?_))) hbq (by first | omega | (simp <;> omega)); have hzq := hTq.size)
              refine hK.out _ _ (hAll4.out _ (by repeat (first | (with_reducible assumption) | exact Below.refl _ _ | (with_reducible refine ua1 ?_) | (with_reducible refine Below.setCell ?_ (by first | omega | (simp <;> omega)) _) | (with_reducible refine Below.drew ?_)))) (fun hS1 => ?_)
              clear hK K
              (try go_simp)
              refine wpAnyH_take (i := 10) (v := ?_) rfl (by kernel_rfl) (by kernel_rfl) (by kernel_rfl) (fun _ _ _ h => h) (Or.inl ⟨by rfl, ?_⟩) hS1 ?_
              rotate_left
              · (intro W _; go_simp; (try with_reducible rfl))
              (try go_simp)
              refine wpAnyH_take (i := 11) (v := ?_) rfl (by kernel_rfl) (by kernel_rfl) (by kernel_rfl) (fun _ _ _ h => h) (Or.inl ⟨by rfl, ?_⟩) hS1 ?_
              rotate_left
              · (intro W _; go_simp; (try with_reducible rfl))
              (try go_simp)
              refine wpAnyH_done (by kernel_rfl) ?_ _
              (try go_simp)
              go_wp2_with fail
              go_meet
              exact ⟨rfl, (by repeat (first | (with_reducible assumption) | exact Below.refl _ _ | (with_reducible refine ua1 ?_) | (with_reducible refine Below.setCell ?_ (by first | omega | (simp <;> omega)) _) | (with_reducible refine Below.drew ?_))), trivial⟩
            case rest =>
              obtain ⟨rfl, I4⟩ := hcut
              obtain ⟨w4, hw4, hb4⟩ : ∃ x, x = _ ∧ Below w3.heap.size w3 x := ⟨_, rfl, I4.out.1⟩
              subst hw4
              have hRR := hb4
              replace x0 := (hb4.cell (p := ⟨b5, o5 + m * 2, none⟩) hb5w).trans x0
              replace x1 := (hb4.cell (p := ⟨b5, o5 + m * 2 + 1, none⟩) hb5w).trans x1
              clear I4
              have hz4 := hb4.size
              (try simp only [World.size_alloc, World.size_setCell, World.size_drew] at hz4)
              have hB1_4 : Below w1.heap.size w1 w4 := ub0 (hB1_3) hb4
              clear hB1_3
              have f4_b0_0 := up0 hb4 (by omega) f3_b0_0
              have f4_b0_1 := up0 hb4 (by omega) f3_b0_1
              have f4_b1_0 := up0 hb4 (by omega) f3_b1_0
              have f4_b1_1 := up0 hb4 (by omega) f3_b1_1
              have f4_b2_0 := up0 hb4 (by omega) f3_b2_0
              have f4_b2_1 := up0 hb4 (by omega) f3_b2_1
              have f4_b3_0 := up0 hb4 (by omega) f3_b3_0
              have f4_b3_1 := up0 hb4 (by omega) f3_b3_1
              have f4_b4_0 := up0 hb4 (by omega) f3_b4_0
              have f4_b4_1 := up0 hb4 (by omega) f3_b4_1
              have f4_b5_0 := up0 hb4 (by omega) f3_b5_0
              have f4_b5_1 := up0 hb4 (by omega) f3_b5_1
              have f4_b5_2 := up0 hb4 (by omega) f3_b5_2
              have f4_b5_3 := up0 hb4 (by omega) f3_b5_3
              have hB4 : Below w.heap.size w w4 := ub0 (hB3) hb4
              clear hb4 hB3 f3_b0_0 f3_b0_1 f3_b1_0 f3_b1_1 f3_b2_0 f3_b2_1 f3_b3_0 f3_b3_1 f3_b4_0 f3_b4_1 f3_b5_0 f3_b5_1 f3_b5_2 f3_b5_3
              have l4_0 : p14 < w4.heap.size := by omega
              have l4_1 : p15 < w4.heap.size := by omega
              have l4_2 : p17 < w4.heap.size := by omega
              have l4_3 : p19 < w4.heap.size := by omega
              have l4_4 : p24 < w4.heap.size := by omega
              have l4_5 : p25 < w4.heap.size := by omega
              clear l3_0 l3_1 l3_2 l3_3 l3_4 l3_5
              go_wp2
              go_roundg (q - (m + 1))
              case measure => omega
              case rel => exact ⟨m + 1, by omega, by omega, by rw [Hsn.out]; rfl, by go_num, hI3.trans (hRR.mono (Below.size hI3))⟩
        · have hltzm : ¬ (m : Int) < (q : Int) := by omega
          obtain rfl : m = q := by omega
          have hfull : hasF (P.take m) z = (decide (r0 ≤ q0) && decide (q1 ≤ r1)) := by rw [List.take_of_length_le (by rw [HQ.out]; exact Nat.le_refl _)]; exact Hz.out
          rw [hfull]
          have eqa3 := (hI3.cell (p := ⟨p25, j * 2, none⟩) (by show p25 < _; omega)).trans eq0
          have eqb3 := (hI3.cell (p := ⟨p25, j * 2 + 1, none⟩) (by show p25 < _; omega)).trans eq1
          have qi := fun W => inside_any q0 q1 r0 r1 W
          have hAll4 : Aside (∀ W, Below w3.heap.size w3 W → (Below w3.heap.size w3 W ∧ W.cell? ⟨p14, 0, none⟩ = some (.int .i64 r0) ∧ W.cell? ⟨p14, 1, none⟩ = some (.int .i64 r1) ∧ W.cell? ⟨p15, 0, none⟩ = some (.int .i64 v0) ∧ W.cell? ⟨p15, 1, none⟩ = some (.int .i64 v1) ∧ W.cell? ⟨p17, 0, none⟩ = some (.int .i64 u0) ∧ W.cell? ⟨p17, 1, none⟩ = some (.int .i64 u1) ∧ W.cell? ⟨p19, 0, none⟩ = some (.int .i64 m0) ∧ W.cell? ⟨p19, 1, none⟩ = some (.int .i64 m1) ∧ W.cell? ⟨p24, 0, none⟩ = some (.int .i64 a) ∧ W.cell? ⟨p24, 1, none⟩ = some (.int .i64 b) ∧ W.cell? ⟨p25, 0, none⟩ = some (.int .i64 v0) ∧ W.cell? ⟨p25, 1, none⟩ = some (.int .i64 v1) ∧ W.cell? ⟨p25, 2, none⟩ = some (.int .i64 u0) ∧ W.cell? ⟨p25, 3, none⟩ = some (.int .i64 u1) ∧ W.cell? ⟨p25, j * 2, none⟩ = some (.int .i64 q0) ∧ W.cell? ⟨p25, j * 2 + 1, none⟩ = some (.int .i64 q1))) := fun W hT => ⟨hT, (hT.cell (p := ⟨p14, 0, none⟩) (by show p14 < _; omega)).trans f3_b0_0, (hT.cell (p := ⟨p14, 1, none⟩) (by show p14 < _; omega)).trans f3_b0_1, (hT.cell (p := ⟨p15, 0, none⟩) (by show p15 < _; omega)).trans f3_b1_0, (hT.cell (p := ⟨p15, 1, none⟩) (by show p15 < _; omega)).trans f3_b1_1, (hT.cell (p := ⟨p17, 0, none⟩) (by show p17 < _; omega)).trans f3_b2_0, (hT.cell (p := ⟨p17, 1, none⟩) (by show p17 < _; omega)).trans f3_b2_1, (hT.cell (p := ⟨p19, 0, none⟩) (by show p19 < _; omega)).trans f3_b3_0, (hT.cell (p := ⟨p19, 1, none⟩) (by show p19 < _; omega)).trans f3_b3_1, (hT.cell (p := ⟨p24, 0, none⟩) (by show p24 < _; omega)).trans f3_b4_0, (hT.cell (p := ⟨p24, 1, none⟩) (by show p24 < _; omega)).trans f3_b4_1, (hT.cell (p := ⟨p25, 0, none⟩) (by show p25 < _; omega)).trans f3_b5_0, (hT.cell (p := ⟨p25, 1, none⟩) (by show p25 < _; omega)).trans f3_b5_1, (hT.cell (p := ⟨p25, 2, none⟩) (by show p25 < _; omega)).trans f3_b5_2, (hT.cell (p := ⟨p25, 3, none⟩) (by show p25 < _; omega)).trans f3_b5_3, (hT.cell (p := ⟨p25, j * 2, none⟩) (by show p25 < _; omega)).trans eqa3, (hT.cell (p := ⟨p25, j * 2 + 1, none⟩) (by show p25 < _; omega)).trans eqb3⟩
          go_upto_region 31 with (fail)
          go_cut [246] (fun s246 wx => s246 = .bool false ∧ Aside (Below w3.heap.size w3 wx ∧ True))
          case first =>
            refine wp_region_held_drew (S := fun W => Below w3.heap.size w3 W ∧ W.cell? ⟨p14, 0, none⟩ = some (.int .i64 r0) ∧ W.cell? ⟨p14, 1, none⟩ = some (.int .i64 r1) ∧ W.cell? ⟨p15, 0, none⟩ = some (.int .i64 v0) ∧ W.cell? ⟨p15, 1, none⟩ = some (.int .i64 v1) ∧ W.cell? ⟨p17, 0, none⟩ = some (.int .i64 u0) ∧ W.cell? ⟨p17, 1, none⟩ = some (.int .i64 u1) ∧ W.cell? ⟨p19, 0, none⟩ = some (.int .i64 m0) ∧ W.cell? ⟨p19, 1, none⟩ = some (.int .i64 m1) ∧ W.cell? ⟨p24, 0, none⟩ = some (.int .i64 a) ∧ W.cell? ⟨p24, 1, none⟩ = some (.int .i64 b) ∧ W.cell? ⟨p25, 0, none⟩ = some (.int .i64 v0) ∧ W.cell? ⟨p25, 1, none⟩ = some (.int .i64 v1) ∧ W.cell? ⟨p25, 2, none⟩ = some (.int .i64 u0) ∧ W.cell? ⟨p25, 3, none⟩ = some (.int .i64 u1) ∧ W.cell? ⟨p25, j * 2, none⟩ = some (.int .i64 q0) ∧ W.cell? ⟨p25, j * 2 + 1, none⟩ = some (.int .i64 q1)) (by kernel_rfl) (hAll4.out _ (by repeat (first | (with_reducible assumption) | exact Below.refl _ _ | (with_reducible refine ua1 ?_) | (with_reducible refine Below.setCell ?_ (by first | omega | (simp <;> omega)) _) | (with_reducible refine Below.drew ?_)))) (fun hS0 => ?_)
            refine wpAnyH_take (i := 0) (v := ?_) rfl (by kernel_rfl) (by kernel_rfl) (by kernel_rfl) (fun _ _ _ h => h) (Or.inl ⟨by rfl, ?_⟩) hS0 ?_
            rotate_left
            · (intro W _; go_simp; (try with_reducible rfl))
            (try go_simp)
            refine wpAnyH_take (i := 1) (v := ?_) rfl (by kernel_rfl) (by kernel_rfl) (by kernel_rfl) (fun _ _ _ h => h) (Or.inl ⟨by rfl, ?_⟩) hS0 ?_
            rotate_left
            · (intro W _; go_simp; (try with_reducible rfl))
            (try go_simp)
            refine wpAnyH_take (i := 2) (v := ?_) rfl (by kernel_rfl) (by kernel_rfl) (by kernel_rfl) (fun _ _ _ h => h) (Or.inl ⟨by rfl, ?_⟩) hS0 ?_
            rotate_left
            · (intro W _; go_simp; (try with_reducible rfl))
            (try go_simp)
            refine wpAnyH_take (i := 3) (v := ?_) rfl (by kernel_rfl) (by kernel_rfl) (by kernel_rfl) (fun _ _ _ h => h) (Or.inl ⟨by rfl, ?_⟩) hS0 ?_
            rotate_left
            · (intro W hSw; (try dsimp only at hSw); go_split_ands; go_simp; (try with_reducible rfl))
            (try go_simp)
            refine wpAnyH_take (i := 4) (v := ?_) rfl (by kernel_rfl) (by kernel_rfl) (by kernel_rfl) (fun _ _ _ h => h) (Or.inl ⟨by rfl, ?_⟩) hS0 ?_
            rotate_left
            · (intro W hSw; (try dsimp only at hSw); go_split_ands; go_simp; (try with_reducible rfl))
            (try go_simp)
            refine wpAnyH_ready (rs := [5]) (by kernel_rfl) (by simp) ?_
            refine (AllReadyH.cons rfl (fun K hK => ?_) AllReadyH.nil)
            go_simp
            go_wp2_with (go_at_call 64; refine (qi _).mono ?_; rintro e wq ⟨rfl, hbq⟩; have hTq : Below w3.heap.size w3 wq := below_call (by repeat (first | (with_reducible assumption) | exact Below.refl _ _ | (with_reducible refine ua1 ?_) | (with_reducible refine Below.setCell ?_ (by first | omega | (simp <;> omega)) _) | (with_reducible refine Below.drew ?_))) hbq (by first | omega | (simp <;> omega)); have hzq := hTq.size)
            refine hK.out _ _ (hAll4.out _ (by repeat (first | (with_reducible assumption) | exact Below.refl _ _ | (with_reducible refine ua1 ?_) | (with_reducible refine Below.setCell ?_ (by first | omega | (simp <;> omega)) _) | (with_reducible refine Below.drew ?_)))) (fun hS1 => ?_)
            clear hK K
            (try go_simp)
            refine wpAnyH_take (i := 6) (v := ?_) rfl (by kernel_rfl) (by kernel_rfl) (by kernel_rfl) (fun _ _ _ h => h) (Or.inl ⟨by rfl, ?_⟩) hS1 ?_
            rotate_left
            · (intro W _; go_simp; (try with_reducible rfl))
            (try go_simp)
            refine wpAnyH_done (by kernel_rfl) ?_ _
            (try go_simp)
            go_wp2_with fail
            go_meet
            exact ⟨by first | rfl | simp, (by repeat (first | (with_reducible assumption) | exact Below.refl _ _ | (with_reducible refine ua1 ?_) | (with_reducible refine Below.setCell ?_ (by first | omega | (simp <;> omega)) _) | (with_reducible refine Below.drew ?_))), trivial⟩
          case rest =>
            obtain ⟨rfl, I4⟩ := hcut
            obtain ⟨w4, hw4, hb4⟩ : ∃ x, x = _ ∧ Below w3.heap.size w3 x := ⟨_, rfl, I4.out.1⟩
            subst hw4
            have hRR := hb4
            clear I4
            have hz4 := hb4.size
            (try simp only [World.size_alloc, World.size_setCell, World.size_drew] at hz4)
            have hB1_4 : Below w1.heap.size w1 w4 := ub0 (hB1_3) hb4
            clear hB1_3
            have f4_b0_0 := up0 hb4 (by omega) f3_b0_0
            have f4_b0_1 := up0 hb4 (by omega) f3_b0_1
            have f4_b1_0 := up0 hb4 (by omega) f3_b1_0
            have f4_b1_1 := up0 hb4 (by omega) f3_b1_1
            have f4_b2_0 := up0 hb4 (by omega) f3_b2_0
            have f4_b2_1 := up0 hb4 (by omega) f3_b2_1
            have f4_b3_0 := up0 hb4 (by omega) f3_b3_0
            have f4_b3_1 := up0 hb4 (by omega) f3_b3_1
            have f4_b4_0 := up0 hb4 (by omega) f3_b4_0
            have f4_b4_1 := up0 hb4 (by omega) f3_b4_1
            have f4_b5_0 := up0 hb4 (by omega) f3_b5_0
            have f4_b5_1 := up0 hb4 (by omega) f3_b5_1
            have f4_b5_2 := up0 hb4 (by omega) f3_b5_2
            have f4_b5_3 := up0 hb4 (by omega) f3_b5_3
            have hB4 : Below w.heap.size w w4 := ub0 (hB3) hb4
            clear hb4 hB3 f3_b0_0 f3_b0_1 f3_b1_0 f3_b1_1 f3_b2_0 f3_b2_1 f3_b3_0 f3_b3_1 f3_b4_0 f3_b4_1 f3_b5_0 f3_b5_1 f3_b5_2 f3_b5_3
            have l4_0 : p14 < w4.heap.size := by omega
            have l4_1 : p15 < w4.heap.size := by omega
            have l4_2 : p17 < w4.heap.size := by omega
            have l4_3 : p19 < w4.heap.size := by omega
            have l4_4 : p24 < w4.heap.size := by omega
            have l4_5 : p25 < w4.heap.size := by omega
            clear l3_0 l3_1 l3_2 l3_3 l3_4 l3_5
            go_wp2
            go_roundg (2 - (j + 1))
            case measure => omega
            case rel => exact ⟨j + 1, by omega, by omega, by go_num, hI2.trans ((hI3.trans (hRR.mono (Below.size hI3))).mono (Below.size hI2))⟩
    · have hltz : ¬ (j : Int) < 2 := by omega
      go_wp2_with fail
      exact rows_C n t P a b r0 r1 v0 v1 u0 u1 fx lx q RA hfx hlx hv hu hP hq hr hlt h2 h12 m0 m1 hm w w2 hB2 p14 p15 p17 p19 g c7 c5 A5 f2_b0_0 f2_b0_1 f2_b1_0 f2_b1_1 f2_b2_0 f2_b2_1 f2_b3_0 f2_b3_1 l2_3 l2_0 l2_1 l2_2 (ht.below hB1_2 (Nat.le_refl _)) (hP5.below hB1_2 (Nat.le_refl _))

end Go.Proofs.Ytfohdafijfjefaa

end

section
set_option linter.unusedSimpArgs false
set_option linter.unusedVariables false
namespace Go.Proofs.Ytfohdafijfjefaa
open Go.RowKit Go.Shelf

noncomputable def tail14 : Code := dropC 14 (bodyC Try.f9)
set_option maxRecDepth 100000
set_option maxHeartbeats 40000000
theorem rows_B {z0 z1 z2 z3 z4 z5 z6 z8 z9 z16 z18 z20 z22 z23 z24 z25 z26 z27 z28 z29 z30 z31 z32 z33 z34 z35 z36 z37 z38 z39 z40 z41 z42 z43 z44 z45 z46 z47 z48 z49 z50 z51 z52 z53 z54 z55 z56 z57 z58 z59 z60 z61 z62 z63 z64 z65 z66 z67 z68 z69 z70 z71 z72 z73 z74 z75 z76 z77 z78 z79 z80 z81 z82 z83 z84 z85 z86 z87 z88 z89 z90 z91 z92 z93 z94 z95 z96 z97 z98 z99 z100 z101 z102 z103 z104 z105 z106 z107 z108 z109 z110 z111 z112 z113 z114 z115 z116 z117 z118 z119 z120 z121 z122 z123 z124 z125 z126 z127 z128 z129 z130 z131 z132 z133 z134 z135 z136 z137 z138 z139 z140 z141 z142 z143 z144 z145 z146 z147 z148 z149 z150 z151 z152 z153 z154 z155 z156 z157 z158 z159 z160 z161 z162 z163 z164 z165 z166 z167 z168 z169 z170 z171 z172 z173 z174 z175 z176 z177 z178 z179 z180 z181 z182 z183 z184 z185 z186 z187 z188 z189 z190 z191 z192 z193 z194 z195 z196 z197 z198 z199 z200 z201 z202 z203 z204 z205 z206 z207 z208 z209 z210 z211 z212 z213 z214 z215 z216 z217 z218 z219 z220 z221 z222 z223 z224 z225 z226 z227 z228 z229 z230 z231 z232 z233 z234 z235 z236 z237 z238 z239 z240 z241 z242 z243 z244 z245 z246 z247 z248 z249 z250 z251 z252 z253 z254 z255 z256 z257 z258 z259 z260 z261 z262 z263 z264 z265 z266 z267 z268 z269 z270 z271 z272 z273 z274 z275 z276 z277 z278 z279 z280 z281 z282 z283 z284 z285 z286 z287 z288 z289 z290 z291 z292 z293 z294 z295 z296 z297 z298 z299 z300 z301 z302 z303 z304 z305 z306 z307 z308 z309 z310 z311 z312 z313 z314 z315 z316 z317 z318 z319 z320 z321 z322 z323 z324 z325 z326 z327 z328 z329 z330 z331 z332 z333 z334 z335 z336 z337 z338 z339 z340 z341 z342 z343 z344 z345 z346 z347 z348 z349 z350 z351 z352 z353 z354 z355 z356 z357 z358 z359 z360 z361 z362 z363 z364 z365 z366 z367 z368 z369 z370 z371 z372 z373 z374 z375 z376 z377 z378 z379 z380 z381 z382 z383 z384 z385 z386 z387 z388 z389 : Value} (n : Nat) (t P : List R) (a b r0 r1 v0 v1 u0 u1 fx lx : Int) (q : Nat) (RA : RowsAt t a b) (hfx : firstX t = fx) (hlx : lastX t = lx) (hv : valS t a = ⟨v0, v1⟩) (hu : valS t b = ⟨u0, u1⟩) (hP : whF t ⟨r0, r1⟩ (t.length - 1) = P) (hq : P.length = q)
    (hr : -32768 ≤ r0 ∧ r0 ≤ r1 ∧ r1 ≤ 32767) (hlt : t.length = n) (h2 : 2 ≤ n) (h12 : n ≤ 12) (m0 m1 : Int) (hm : valsF t ⟨a, b⟩ t.length = ⟨m0, m1⟩) (w w1 : World) (hB1 : Below w.heap.size w w1) (p14 p15 p17 p19 g c7 c5 : Nat) (A5 : Option Addr)
    (f1_b0_0 : w1.cell? ⟨p14, 0, none⟩ = some (.int .i64 r0)) (f1_b0_1 : w1.cell? ⟨p14, 1, none⟩ = some (.int .i64 r1)) (f1_b1_0 : w1.cell? ⟨p15, 0, none⟩ = some (.int .i64 v0)) (f1_b1_1 : w1.cell? ⟨p15, 1, none⟩ = some (.int .i64 v1)) (f1_b2_0 : w1.cell? ⟨p17, 0, none⟩ = some (.int .i64 u0)) (f1_b2_1 : w1.cell? ⟨p17, 1, none⟩ = some (.int .i64 u1))
    (f1_b3_0 : w1.cell? ⟨p19, 0, none⟩ = some (.int .i64 m0)) (f1_b3_1 : w1.cell? ⟨p19, 1, none⟩ = some (.int .i64 m1)) (l1_3 : p19 < w1.heap.size) (l1_0 : p14 < w1.heap.size) (l1_1 : p15 < w1.heap.size) (l1_2 : p17 < w1.heap.size) (ht : Ranges w1 0 (some ⟨g, 0, none⟩) t) (hP5 : Ranges w1 0 A5 P) :
    Code.wp Try.prog tail14 (bodyPost Try.prog Try.f9 fun e w' => e = .returned (.bool true) ∧ Below w.heap.size w w') ⟨List.toArray [z0, z1, z2, z3, z4, z5, z6, rowV g n c7, z8, z9, .int .i64 fx, .int .i64 lx, .int .i64 a, .int .i64 b, .pointer (some ⟨p14, 0, none⟩), .pointer (some ⟨p15, 0, none⟩), z16, .pointer (some ⟨p17, 0, none⟩), z18, .pointer (some ⟨p19, 0, none⟩), z20, .slice A5 q c5, z22, z23, z24, z25, z26, z27, z28, z29, z30, z31, z32, z33, z34, z35, z36, z37, z38, z39, z40, z41, z42, z43, z44, z45, z46, z47, z48, z49, z50, z51, z52, z53, z54, z55, z56, z57, z58, z59, z60, z61, z62, z63, z64, z65, z66, z67, z68, z69, z70, z71, z72, z73, z74, z75, z76, z77, z78, z79, z80, z81, z82, z83, z84, z85, z86, z87, z88, z89, z90, z91, z92, z93, z94, z95, z96, z97, z98, z99, z100, z101, z102, z103, z104, z105, z106, z107, z108, z109, z110, z111, z112, z113, z114, z115, z116, z117, z118, z119, z120, z121, z122, z123, z124, z125, z126, z127, z128, z129, z130, z131, z132, z133, z134, z135, z136, z137, z138, z139, z140, z141, z142, z143, z144, z145, z146, z147, z148, z149, z150, z151, z152, z153, z154, z155, z156, z157, z158, z159, z160, z161, z162, z163, z164, z165, z166, z167, z168, z169, z170, z171, z172, z173, z174, z175, z176, z177, z178, z179, z180, z181, z182, z183, z184, z185, z186, z187, z188, z189, z190, z191, z192, z193, z194, z195, z196, z197, z198, z199, z200, z201, z202, z203, z204, z205, z206, z207, z208, z209, z210, z211, z212, z213, z214, z215, z216, z217, z218, z219, z220, z221, z222, z223, z224, z225, z226, z227, z228, z229, z230, z231, z232, z233, z234, z235, z236, z237, z238, z239, z240, z241, z242, z243, z244, z245, z246, z247, z248, z249, z250, z251, z252, z253, z254, z255, z256, z257, z258, z259, z260, z261, z262, z263, z264, z265, z266, z267, z268, z269, z270, z271, z272, z273, z274, z275, z276, z277, z278, z279, z280, z281, z282, z283, z284, z285, z286, z287, z288, z289, z290, z291, z292, z293, z294, z295, z296, z297, z298, z299, z300, z301, z302, z303, z304, z305, z306, z307, z308, z309, z310, z311, z312, z313, z314, z315, z316, z317, z318, z319, z320, z321, z322, z323, z324, z325, z326, z327, z328, z329, z330, z331, z332, z333, z334, z335, z336, z337, z338, z339, z340, z341, z342, z343, z344, z345, z346, z347, z348, z349, z350, z351, z352, z353, z354, z355, z356, z357, z358, z359, z360, z361, z362, z363, z364, z365, z366, z367, z368, z369, z370, z371, z372, z373, z374, z375, z376, z377, z378, z379, z380, z381, z382, z383, z384, z385, z386, z387, z388, z389], []⟩ w1 := by
  have hR : tail15 = dropC 1 tail14 := (dropC_add 1 14 _).symm
  refine wp_tail 1 hR ?_
  conv => arg 2; simp only [tail14, bodyC, Try.f9, Option.getD_some, dropC, mkC]
  conv => arg 4; dsimp only
  have hAll2 : Aside (∀ W, Below w1.heap.size w1 W → (Below w1.heap.size w1 W ∧ W.cell? ⟨p14, 0, none⟩ = some (.int .i64 r0) ∧ W.cell? ⟨p14, 1, none⟩ = some (.int .i64 r1) ∧ W.cell? ⟨p15, 0, none⟩ = some (.int .i64 v0) ∧ W.cell? ⟨p15, 1, none⟩ = some (.int .i64 v1) ∧ W.cell? ⟨p17, 0, none⟩ = some (.int .i64 u0) ∧ W.cell? ⟨p17, 1, none⟩ = some (.int .i64 u1) ∧ W.cell? ⟨p19, 0, none⟩ = some (.int .i64 m0) ∧ W.cell? ⟨p19, 1, none⟩ = some (.int .i64 m1))) := fun W hT => ⟨hT, (hT.cell (p := ⟨p14, 0, none⟩) (by show p14 < _; omega)).trans f1_b0_0, (hT.cell (p := ⟨p14, 1, none⟩) (by show p14 < _; omega)).trans f1_b0_1, (hT.cell (p := ⟨p15, 0, none⟩) (by show p15 < _; omega)).trans f1_b1_0, (hT.cell (p := ⟨p15, 1, none⟩) (by show p15 < _; omega)).trans f1_b1_1, (hT.cell (p := ⟨p17, 0, none⟩) (by show p17 < _; omega)).trans f1_b2_0, (hT.cell (p := ⟨p17, 1, none⟩) (by show p17 < _; omega)).trans f1_b2_1, (hT.cell (p := ⟨p19, 0, none⟩) (by show p19 < _; omega)).trans f1_b3_0, (hT.cell (p := ⟨p19, 1, none⟩) (by show p19 < _; omega)).trans f1_b3_1⟩
  go_upto_region 20 with (fail)
  go_cut [24, 25] (fun s24 s25 wx => ∃ p24 p25 : Nat, s24 = .pointer (some ⟨p24, 0, none⟩) ∧ s25 = .pointer (some ⟨p25, 0, none⟩) ∧ Aside (Below w1.heap.size w1 wx ∧ p24 < wx.heap.size ∧ p25 < wx.heap.size ∧ wx.cell? ⟨p24, 0, none⟩ = some (.int .i64 a) ∧ wx.cell? ⟨p24, 1, none⟩ = some (.int .i64 b) ∧ wx.cell? ⟨p25, 0, none⟩ = some (.int .i64 v0) ∧ wx.cell? ⟨p25, 1, none⟩ = some (.int .i64 v1) ∧ wx.cell? ⟨p25, 2, none⟩ = some (.int .i64 u0) ∧ wx.cell? ⟨p25, 3, none⟩ = some (.int .i64 u1)))
  case first =>
    go_region_held3 (fun W => Below w1.heap.size w1 W ∧ W.cell? ⟨p14, 0, none⟩ = some (.int .i64 r0) ∧ W.cell? ⟨p14, 1, none⟩ = some (.int .i64 r1) ∧ W.cell? ⟨p15, 0, none⟩ = some (.int .i64 v0) ∧ W.cell? ⟨p15, 1, none⟩ = some (.int .i64 v1) ∧ W.cell? ⟨p17, 0, none⟩ = some (.int .i64 u0) ∧ W.cell? ⟨p17, 1, none⟩ = some (.int .i64 u1) ∧ W.cell? ⟨p19, 0, none⟩ = some (.int .i64 m0) ∧ W.cell? ⟨p19, 1, none⟩ = some (.int .i64 m1))
        (exact hAll2.out _ (by repeat (first | (with_reducible assumption) | exact Below.refl _ _ | (with_reducible refine ua1 ?_) | (with_reducible refine Below.setCell ?_ (by first | omega | (simp <;> omega)) _) | (with_reducible refine Below.alloc ?_ (by first | omega | (simp <;> omega)) _) | (with_reducible refine Below.drew ?_))))
        (first | (fail))
    all_goals
      go_wp2_with fail
      go_meet
      exact ⟨_, _, rfl, rfl, (by repeat (first | (with_reducible assumption) | exact Below.refl _ _ | (with_reducible refine ua1 ?_) | (with_reducible refine Below.setCell ?_ (by first | omega | (simp <;> omega)) _) | (with_reducible refine Below.alloc ?_ (by first | omega | (simp <;> omega)) _) | (with_reducible refine Below.drew ?_))), by simp <;> omega, by simp <;> omega, by simp [go_sem, cell_set], by simp [go_sem, cell_set], by simp [go_sem, cell_set], by simp [go_sem, cell_set], by simp [go_sem, cell_set], by simp [go_sem, cell_set]⟩
  case rest =>
    obtain ⟨p24, p25, rfl, rfl, I2⟩ := hcut
    obtain ⟨w2, hw2, hb2⟩ : ∃ x, x = _ ∧ Below w1.heap.size w1 x := ⟨_, rfl, I2.out.1⟩
    subst hw2
    obtain ⟨-, l24, l25, f2_b4_0, f2_b4_1, f2_b5_0, f2_b5_1, f2_b5_2, f2_b5_3⟩ := I2.out
    clear I2
    have hz2 := hb2.size
    (try simp only [World.size_alloc, World.size_setCell, World.size_drew] at hz2)
    have hB1_2 : Below w1.heap.size w1 w2 := ub0 (Below.refl _ _) hb2
    have f2_b0_0 := up0 hb2 (by omega) f1_b0_0
    have f2_b0_1 := up0 hb2 (by omega) f1_b0_1
    have f2_b1_0 := up0 hb2 (by omega) f1_b1_0
    have f2_b1_1 := up0 hb2 (by omega) f1_b1_1
    have f2_b2_0 := up0 hb2 (by omega) f1_b2_0
    have f2_b2_1 := up0 hb2 (by omega) f1_b2_1
    have f2_b3_0 := up0 hb2 (by omega) f1_b3_0
    have f2_b3_1 := up0 hb2 (by omega) f1_b3_1
    have hB2 : Below w.heap.size w w2 := ub0 (hB1) hb2
    clear hb2 hB1 f1_b0_0 f1_b0_1 f1_b1_0 f1_b1_1 f1_b2_0 f1_b2_1 f1_b3_0 f1_b3_1
    have l2_0 : p14 < w2.heap.size := by omega
    have l2_1 : p15 < w2.heap.size := by omega
    have l2_2 : p17 < w2.heap.size := by omega
    have l2_3 : p19 < w2.heap.size := by omega
    clear l1_0 l1_1 l1_2 l1_3
    go_wp2_with fail
    exact rows_B2 n t P a b r0 r1 v0 v1 u0 u1 fx lx q RA hfx hlx hv hu hP hq hr hlt h2 h12 m0 m1 hm w w2 hB2 p14 p15 p17 p19 p24 p25 g c7 c5 A5 f2_b0_0 f2_b0_1 f2_b1_0 f2_b1_1 f2_b2_0 f2_b2_1 f2_b3_0 f2_b3_1 l2_3 f2_b4_0 f2_b4_1 f2_b5_0 f2_b5_1 f2_b5_2 f2_b5_3 l24 l25 l2_0 l2_1 l2_2 (ht.below hB1_2 (Nat.le_refl _)) (hP5.below hB1_2 (Nat.le_refl _))

end Go.Proofs.Ytfohdafijfjefaa

end
