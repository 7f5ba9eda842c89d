/- spilelaw01.SpanRows: the values at all rows, and what follows. -/
import Derived.Test.YtfohdafijfjefaaRowsD
set_option linter.unusedSimpArgs false
set_option linter.unusedVariables false
namespace Go.Proofs.Ytfohdafijfjefaa
open Go.RowKit Go.Shelf

noncomputable def tail16 : Code := dropC 16 (bodyC Try.f9)
set_option maxRecDepth 100000
set_option maxHeartbeats 40000000
theorem rows_C {z0 z1 z2 z3 z4 z5 z6 z8 z9 z16 z18 z20 z22 z23 z24 z25 z26 z27 z28 z29 z30 z31 z32 z33 z34 z35 z36 z37 z38 z39 z40 z41 z42 z43 z44 z45 z46 z47 z48 z49 z50 z51 z52 z53 z54 z55 z56 z57 z58 z59 z60 z61 z62 z63 z64 z65 z66 z67 z68 z69 z70 z71 z72 z73 z74 z75 z76 z77 z78 z79 z80 z81 z82 z83 z84 z85 z86 z87 z88 z89 z90 z91 z92 z93 z94 z95 z96 z97 z98 z99 z100 z101 z102 z103 z104 z105 z106 z107 z108 z109 z110 z111 z112 z113 z114 z115 z116 z117 z118 z119 z120 z121 z122 z123 z124 z125 z126 z127 z128 z129 z130 z131 z132 z133 z134 z135 z136 z137 z138 z139 z140 z141 z142 z143 z144 z145 z146 z147 z148 z149 z150 z151 z152 z153 z154 z155 z156 z157 z158 z159 z160 z161 z162 z163 z164 z165 z166 z167 z168 z169 z170 z171 z172 z173 z174 z175 z176 z177 z178 z179 z180 z181 z182 z183 z184 z185 z186 z187 z188 z189 z190 z191 z192 z193 z194 z195 z196 z197 z198 z199 z200 z201 z202 z203 z204 z205 z206 z207 z208 z209 z210 z211 z212 z213 z214 z215 z216 z217 z218 z219 z220 z221 z222 z223 z224 z225 z226 z227 z228 z229 z230 z231 z232 z233 z234 z235 z236 z237 z238 z239 z240 z241 z242 z243 z244 z245 z246 z247 z248 z249 z250 z251 z252 z253 z254 z255 z256 z257 z258 z259 z260 z261 z262 z263 z264 z265 z266 z267 z268 z269 z270 z271 z272 z273 z274 z275 z276 z277 z278 z279 z280 z281 z282 z283 z284 z285 z286 z287 z288 z289 z290 z291 z292 z293 z294 z295 z296 z297 z298 z299 z300 z301 z302 z303 z304 z305 z306 z307 z308 z309 z310 z311 z312 z313 z314 z315 z316 z317 z318 z319 z320 z321 z322 z323 z324 z325 z326 z327 z328 z329 z330 z331 z332 z333 z334 z335 z336 z337 z338 z339 z340 z341 z342 z343 z344 z345 z346 z347 z348 z349 z350 z351 z352 z353 z354 z355 z356 z357 z358 z359 z360 z361 z362 z363 z364 z365 z366 z367 z368 z369 z370 z371 z372 z373 z374 z375 z376 z377 z378 z379 z380 z381 z382 z383 z384 z385 z386 z387 z388 z389 : Value} (n : Nat) (t P : List R) (a b r0 r1 v0 v1 u0 u1 fx lx : Int) (q : Nat) (RA : RowsAt t a b) (hfx : firstX t = fx) (hlx : lastX t = lx) (hv : valS t a = ⟨v0, v1⟩) (hu : valS t b = ⟨u0, u1⟩) (hP : whF t ⟨r0, r1⟩ (t.length - 1) = P) (hq : P.length = q)
    (hr : -32768 ≤ r0 ∧ r0 ≤ r1 ∧ r1 ≤ 32767) (hlt : t.length = n) (h2 : 2 ≤ n) (h12 : n ≤ 12) (m0 m1 : Int) (hm : valsF t ⟨a, b⟩ t.length = ⟨m0, m1⟩) (w w1 : World) (hB1 : Below w.heap.size w w1) (p14 p15 p17 p19 g c7 c5 : Nat) (A5 : Option Addr)
    (f1_b0_0 : w1.cell? ⟨p14, 0, none⟩ = some (.int .i64 r0)) (f1_b0_1 : w1.cell? ⟨p14, 1, none⟩ = some (.int .i64 r1)) (f1_b1_0 : w1.cell? ⟨p15, 0, none⟩ = some (.int .i64 v0)) (f1_b1_1 : w1.cell? ⟨p15, 1, none⟩ = some (.int .i64 v1)) (f1_b2_0 : w1.cell? ⟨p17, 0, none⟩ = some (.int .i64 u0)) (f1_b2_1 : w1.cell? ⟨p17, 1, none⟩ = some (.int .i64 u1))
    (f1_b3_0 : w1.cell? ⟨p19, 0, none⟩ = some (.int .i64 m0)) (f1_b3_1 : w1.cell? ⟨p19, 1, none⟩ = some (.int .i64 m1)) (l1_3 : p19 < w1.heap.size) (l1_0 : p14 < w1.heap.size) (l1_1 : p15 < w1.heap.size) (l1_2 : p17 < w1.heap.size) (ht : Ranges w1 0 (some ⟨g, 0, none⟩) t) (hP5 : Ranges w1 0 A5 P) :
    Code.wp Try.prog tail16 (bodyPost Try.prog Try.f9 fun e w' => e = .returned (.bool true) ∧ Below w.heap.size w w') ⟨List.toArray [z0, z1, z2, z3, z4, z5, z6, rowV g n c7, z8, z9, .int .i64 fx, .int .i64 lx, .int .i64 a, .int .i64 b, .pointer (some ⟨p14, 0, none⟩), .pointer (some ⟨p15, 0, none⟩), z16, .pointer (some ⟨p17, 0, none⟩), z18, .pointer (some ⟨p19, 0, none⟩), z20, .slice A5 q c5, z22, z23, z24, z25, z26, z27, z28, z29, z30, z31, z32, z33, z34, z35, z36, z37, z38, z39, z40, z41, z42, z43, z44, z45, z46, z47, z48, z49, z50, z51, z52, z53, z54, z55, z56, z57, z58, z59, z60, z61, z62, z63, z64, z65, z66, z67, z68, z69, z70, z71, z72, z73, z74, z75, z76, z77, z78, z79, z80, z81, z82, z83, z84, z85, z86, z87, z88, z89, z90, z91, z92, z93, z94, z95, z96, z97, z98, z99, z100, z101, z102, z103, z104, z105, z106, z107, z108, z109, z110, z111, z112, z113, z114, z115, z116, z117, z118, z119, z120, z121, z122, z123, z124, z125, z126, z127, z128, z129, z130, z131, z132, z133, z134, z135, z136, z137, z138, z139, z140, z141, z142, z143, z144, z145, z146, z147, z148, z149, z150, z151, z152, z153, z154, z155, z156, z157, z158, z159, z160, z161, z162, z163, z164, z165, z166, z167, z168, z169, z170, z171, z172, z173, z174, z175, z176, z177, z178, z179, z180, z181, z182, z183, z184, z185, z186, z187, z188, z189, z190, z191, z192, z193, z194, z195, z196, z197, z198, z199, z200, z201, z202, z203, z204, z205, z206, z207, z208, z209, z210, z211, z212, z213, z214, z215, z216, z217, z218, z219, z220, z221, z222, z223, z224, z225, z226, z227, z228, z229, z230, z231, z232, z233, z234, z235, z236, z237, z238, z239, z240, z241, z242, z243, z244, z245, z246, z247, z248, z249, z250, z251, z252, z253, z254, z255, z256, z257, z258, z259, z260, z261, z262, z263, z264, z265, z266, z267, z268, z269, z270, z271, z272, z273, z274, z275, z276, z277, z278, z279, z280, z281, z282, z283, z284, z285, z286, z287, z288, z289, z290, z291, z292, z293, z294, z295, z296, z297, z298, z299, z300, z301, z302, z303, z304, z305, z306, z307, z308, z309, z310, z311, z312, z313, z314, z315, z316, z317, z318, z319, z320, z321, z322, z323, z324, z325, z326, z327, z328, z329, z330, z331, z332, z333, z334, z335, z336, z337, z338, z339, z340, z341, z342, z343, z344, z345, z346, z347, z348, z349, z350, z351, z352, z353, z354, z355, z356, z357, z358, z359, z360, z361, z362, z363, z364, z365, z366, z367, z368, z369, z370, z371, z372, z373, z374, z375, z376, z377, z378, z379, z380, z381, z382, z383, z384, z385, z386, z387, z388, z389], []⟩ w1 := by
  have hn : Aside (t.length = n) := hlt
  have hmn : n ≤ maxLen := by unfold maxLen; omega
  have hrow : Aside (∀ i, i < n → ∀ A c W, Ranges W 0 A t → Calls Try.prog 59 #[.slice A n c, .int .i64 (t[i]?.getD R.d).lo] W fun e w' => e = .returned (.tuple #[.agg #[.int .i64 (t[i]?.getD R.d).hi, .int .i64 (t[i]?.getD R.d).hi], .int .i64 0]) ∧ Below W.heap.size W w') := by
    intro i hi A c W hx
    have := Value_any 0 A n c t (t[i]?.getD R.d).lo W hx hn hmn
    rw [RA.row i (by omega)] at this
    simpa only [RE] using this
  have hhas : Aside (∀ i, i < n → a ≤ (t[i]?.getD R.d).lo → (t[i]?.getD R.d).lo ≤ b → m0 ≤ (t[i]?.getD R.d).hi ∧ (t[i]?.getD R.d).hi ≤ m1) := by
    intro i hi h1 h2
    have := RA.has i (by omega) ⟨h1, h2⟩
    rwa [hm] at this
  have hR : tail17 = dropC 1 tail16 := (dropC_add 1 16 _).symm
  refine wp_tail 1 hR ?_
  conv => arg 2; simp only [tail16, bodyC, Try.f9, Option.getD_some, dropC, mkC]
  have h1 := fun W hx => copy_60 0 (some ⟨g, 0, none⟩) n c7 t W hx hn.out (fun h => by cases h) (by omega)
  go_wp2_with fail
  go_loopg [29] (n) (fun gg i wr => ∃ k : Nat, k ≤ n ∧ n - k ≤ gg ∧ i = .int .i64 k ∧ Aside (Below w1.heap.size w1 wr))
  case atStart => exact ⟨0, Nat.zero_le _, Nat.le_refl _, rfl, Below.refl _ _⟩
  case round =>
    obtain ⟨k, hk, hg, rfl, I2⟩ := hrel
    obtain ⟨w2, hw2⟩ : ∃ x, x = wr := ⟨_, rfl⟩
    subst hw2
    have hb2 : Below w1.heap.size w1 w2 := I2.out
    have hI2 := hb2
    clear I2
    have hz2 := hb2.size
    (try simp only [World.size_alloc, World.size_setCell, World.size_drew] at hz2)
    have hB1_2 : Below w1.heap.size w1 w2 := ub0 (Below.refl _ _) hb2
    have f2_b0_0 := up0 hb2 (by omega) f1_b0_0
    have f2_b0_1 := up0 hb2 (by omega) f1_b0_1
    have f2_b1_0 := up0 hb2 (by omega) f1_b1_0
    have f2_b1_1 := up0 hb2 (by omega) f1_b1_1
    have f2_b2_0 := up0 hb2 (by omega) f1_b2_0
    have f2_b2_1 := up0 hb2 (by omega) f1_b2_1
    have f2_b3_0 := up0 hb2 (by omega) f1_b3_0
    have f2_b3_1 := up0 hb2 (by omega) f1_b3_1
    have hB2 : Below w.heap.size w w2 := ub0 (hB1) hb2
    clear hb2 hB1 f1_b0_0 f1_b0_1 f1_b1_0 f1_b1_1 f1_b2_0 f1_b2_1 f1_b3_0 f1_b3_1
    have l2_0 : p14 < w2.heap.size := by omega
    have l2_1 : p15 < w2.heap.size := by omega
    have l2_2 : p17 < w2.heap.size := by omega
    have l2_3 : p19 < w2.heap.size := by omega
    clear l1_0 l1_1 l1_2 l1_3
    by_cases hltk : k < n
    · skip
      have hltz : (k : Int) < (n : Int) := by omega
      have hi0 : (0 : Int) ≤ (k : Int) := Int.natCast_nonneg _
      obtain ⟨x0', x1', hgw⟩ := rng_at ht k (by omega)
      have x0 := (hB1_2.cell (p := ⟨g, 0 + k * 2, none⟩) hgw).trans x0'
      have x1 := (hB1_2.cell (p := ⟨g, 0 + k * 2 + 1, none⟩) hgw).trans x1'
      have hva := hrow.out k hltk
      have hha := hhas.out k hltk
      have hz12 := hB1_2.size
      have hgw2 : g < w2.heap.size := by omega
      clear x0' x1' RA hfx hlx hv hu hP hq hr hm hrow hhas hR
      generalize t[k]?.getD R.d = s at x0 x1 hva hha
      obtain ⟨x, y⟩ := s
      simp only [Nat.zero_add] at x0 x1 hva hha
      have hAll3 : Aside (∀ W, Below w2.heap.size w2 W → (Below w2.heap.size w2 W ∧ W.cell? ⟨p14, 0, none⟩ = some (.int .i64 r0) ∧ W.cell? ⟨p14, 1, none⟩ = some (.int .i64 r1) ∧ W.cell? ⟨p15, 0, none⟩ = some (.int .i64 v0) ∧ W.cell? ⟨p15, 1, none⟩ = some (.int .i64 v1) ∧ W.cell? ⟨p17, 0, none⟩ = some (.int .i64 u0) ∧ W.cell? ⟨p17, 1, none⟩ = some (.int .i64 u1) ∧ W.cell? ⟨p19, 0, none⟩ = some (.int .i64 m0) ∧ W.cell? ⟨p19, 1, none⟩ = some (.int .i64 m1) ∧ W.cell? ⟨g, k * 2, none⟩ = some (.int .i64 x) ∧ W.cell? ⟨g, k * 2 + 1, none⟩ = some (.int .i64 y))) := fun W hT => ⟨hT, (hT.cell (p := ⟨p14, 0, none⟩) (by show p14 < _; omega)).trans f2_b0_0, (hT.cell (p := ⟨p14, 1, none⟩) (by show p14 < _; omega)).trans f2_b0_1, (hT.cell (p := ⟨p15, 0, none⟩) (by show p15 < _; omega)).trans f2_b1_0, (hT.cell (p := ⟨p15, 1, none⟩) (by show p15 < _; omega)).trans f2_b1_1, (hT.cell (p := ⟨p17, 0, none⟩) (by show p17 < _; omega)).trans f2_b2_0, (hT.cell (p := ⟨p17, 1, none⟩) (by show p17 < _; omega)).trans f2_b2_1, (hT.cell (p := ⟨p19, 0, none⟩) (by show p19 < _; omega)).trans f2_b3_0, (hT.cell (p := ⟨p19, 1, none⟩) (by show p19 < _; omega)).trans f2_b3_1, (hT.cell (p := ⟨g, k * 2, none⟩) hgw2).trans x0, (hT.cell (p := ⟨g, k * 2 + 1, none⟩) hgw2).trans x1⟩
      go_upto_region 36 with (fail)
      go_cut [30, 31] (fun s30 s31 wx => ∃ p30 : Nat, s30 = .pointer (some ⟨p30, 0, none⟩) ∧ s31 = .int .i64 0 ∧ Aside (Below w2.heap.size w2 wx ∧ p30 < wx.heap.size ∧ wx.cell? ⟨p30, 0, none⟩ = some (.int .i64 y) ∧ wx.cell? ⟨p30, 1, none⟩ = some (.int .i64 y)))
      case first =>
        refine wp_region_held_drew (S := fun W => Below w2.heap.size w2 W ∧ W.cell? ⟨p14, 0, none⟩ = some (.int .i64 r0) ∧ W.cell? ⟨p14, 1, none⟩ = some (.int .i64 r1) ∧ W.cell? ⟨p15, 0, none⟩ = some (.int .i64 v0) ∧ W.cell? ⟨p15, 1, none⟩ = some (.int .i64 v1) ∧ W.cell? ⟨p17, 0, none⟩ = some (.int .i64 u0) ∧ W.cell? ⟨p17, 1, none⟩ = some (.int .i64 u1) ∧ W.cell? ⟨p19, 0, none⟩ = some (.int .i64 m0) ∧ W.cell? ⟨p19, 1, none⟩ = some (.int .i64 m1) ∧ W.cell? ⟨g, k * 2, none⟩ = some (.int .i64 x) ∧ W.cell? ⟨g, k * 2 + 1, none⟩ = some (.int .i64 y)) (by kernel_rfl) (hAll3.out _ (by repeat (first | (with_reducible assumption) | exact Below.refl _ _ | (with_reducible refine ua1 ?_) | (with_reducible refine Below.setCell ?_ (by first | omega | (simp <;> omega)) _) | (with_reducible refine Below.drew ?_)))) (fun hS0 => ?_)
        refine wpAnyH_take (i := 0) (v := ?_) rfl (by kernel_rfl) (by kernel_rfl) (by kernel_rfl) (fun _ _ _ h => h) (Or.inl ⟨by rfl, ?_⟩) hS0 ?_
        rotate_left
        · (intro W _; go_simp; (try with_reducible rfl))
        (try go_simp)
        refine wpAnyH_take (i := 2) (v := ?_) rfl (by kernel_rfl) (by kernel_rfl) (by kernel_rfl) (fun _ _ _ h => h) (Or.inl ⟨by rfl, ?_⟩) hS0 ?_
        rotate_left
        · (intro W _; go_simp; (try with_reducible rfl))
        (try go_simp)
        refine wpAnyH_take (i := 3) (v := ?_) rfl (by kernel_rfl) (by kernel_rfl) (by kernel_rfl) (fun _ _ _ h => h) (Or.inl ⟨by rfl, ?_⟩) hS0 ?_
        rotate_left
        · (intro W _; go_simp; (try with_reducible rfl))
        (try go_simp)
        refine wpAnyH_take (i := 4) (v := ?_) rfl (by kernel_rfl) (by kernel_rfl) (by kernel_rfl) (fun _ _ _ h => h) (Or.inl ⟨by rfl, ?_⟩) hS0 ?_
        rotate_left
        · (intro W _; go_simp; (try with_reducible rfl))
        (try go_simp)
        refine wpAnyH_take (i := 5) (v := ?_) rfl (by kernel_rfl) (by kernel_rfl) (by kernel_rfl) (fun _ _ _ h => h) (Or.inl ⟨by rfl, ?_⟩) hS0 ?_
        rotate_left
        · (intro W _; go_simp; (try with_reducible rfl))
        (try go_simp)
        refine wpAnyH_take (i := 6) (v := ?_) rfl (by kernel_rfl) (by kernel_rfl) (by kernel_rfl) (fun _ _ _ h => h) (Or.inl ⟨by rfl, ?_⟩) hS0 ?_
        rotate_left
        · (intro W hSw; (try dsimp only at hSw); go_split_ands; go_simp; (try with_reducible rfl))
        (try go_simp)
        refine wpAnyH_ready (rs := [1, 11]) (by kernel_rfl) (by simp) ?_
        refine (AllReadyH.cons rfl (fun K hK => ?_) (AllReadyH.cons rfl (fun K hK => ?_) AllReadyH.nil))
        · skip
          go_simp
          go_wp2_with (go_at_call 60; refine (h1 _ (ht.below (below_call (hB1_2) (by repeat (first | (with_reducible assumption) | exact Below.refl _ _ | (with_reducible refine ua1 ?_) | (with_reducible refine Below.setCell ?_ (by first | omega | (simp <;> omega)) _) | (with_reducible refine Below.drew ?_))) (by omega)) (Nat.le_refl _))).mono ?_; rintro e wq ⟨A6, c6, rfl, hc6, hm6, hy6, hbq⟩; have hTq : Below w2.heap.size w2 wq := below_call (by repeat (first | (with_reducible assumption) | exact Below.refl _ _ | (with_reducible refine ua1 ?_) | (with_reducible refine Below.setCell ?_ (by first | omega | (simp <;> omega)) _) | (with_reducible refine Below.drew ?_))) hbq (by first | omega | (simp <;> omega)); replace hy6 := hy6.mono (Nat.zero_le _); have hzq := hTq.size)
          refine hK.out _ _ (hAll3.out _ (by repeat (first | (with_reducible assumption) | exact Below.refl _ _ | (with_reducible refine ua1 ?_) | (with_reducible refine Below.setCell ?_ (by first | omega | (simp <;> omega)) _) | (with_reducible refine Below.drew ?_)))) (fun hS1 => ?_)
          clear hK K
          (try go_simp)
          refine wpAnyH_ready (rs := [7, 11]) (by kernel_rfl) (by simp) ?_
          refine (AllReadyH.cons rfl (fun K hK => ?_) (AllReadyH.cons rfl (fun K hK => ?_) AllReadyH.nil))
          · skip
            go_simp
            go_wp2_with (go_at_call 59; refine (hva _ _ _ (hy6.below (by repeat (first | (with_reducible assumption) | exact Below.refl _ _ | (with_reducible refine ua1 ?_) | (with_reducible refine Below.setCell ?_ (by first | omega | (simp <;> omega)) _) | (with_reducible refine Below.drew ?_))) (Nat.le_refl _))).mono ?_; rintro e wp ⟨rfl, hbp⟩; have hTp : Below w2.heap.size w2 wp := below_call (by repeat (first | (with_reducible assumption) | exact Below.refl _ _ | (with_reducible refine ua1 ?_) | (with_reducible refine Below.setCell ?_ (by first | omega | (simp <;> omega)) _) | (with_reducible refine Below.drew ?_))) hbp (by first | omega | (simp <;> omega)); have hzp := hTp.size)
            refine hK.out _ _ (hAll3.out _ (by repeat (first | (with_reducible assumption) | exact Below.refl _ _ | (with_reducible refine ua1 ?_) | (with_reducible refine Below.setCell ?_ (by first | omega | (simp <;> omega)) _) | (with_reducible refine Below.drew ?_)))) (fun hS2 => ?_)
            clear hK K
            (try go_simp)
            refine wpAnyH_take (i := 8) (v := ?_) rfl (by kernel_rfl) (by kernel_rfl) (by kernel_rfl) (fun _ _ _ h => h) (Or.inl ⟨by rfl, ?_⟩) hS2 ?_
            rotate_left
            · (intro W _; go_simp; (try with_reducible rfl))
            (try go_simp)
            refine wpAnyH_take (i := 9) (v := ?_) rfl (by kernel_rfl) (by kernel_rfl) (by kernel_rfl) (fun _ _ _ h => h) (Or.inl ⟨by rfl, ?_⟩) hS2 ?_
            rotate_left
            · (intro W _; go_simp; (try with_reducible rfl))
            (try go_simp)
            refine wpAnyH_take (i := 10) (v := ?_) rfl (by kernel_rfl) (by kernel_rfl) (by kernel_rfl) (fun _ _ _ h => h) (Or.inl ⟨by rfl, ?_⟩) hS2 ?_
            rotate_left
            · (intro W _; go_simp; (try with_reducible rfl))
            (try go_simp)
            refine wpAnyH_ready (rs := [11]) (by kernel_rfl) (by simp) ?_
            refine (AllReadyH.cons rfl (fun K hK => ?_) AllReadyH.nil)
            go_simp
            refine hK.out _ _ (hAll3.out _ (by repeat (first | (with_reducible assumption) | exact Below.refl _ _ | (with_reducible refine ua1 ?_) | (with_reducible refine Below.setCell ?_ (by first | omega | (simp <;> omega)) _) | (with_reducible refine Below.drew ?_)))) (fun hS3 => ?_)
            clear hK K
            (try go_simp)
            refine wpAnyH_ready (rs := [12]) (by kernel_rfl) (by simp) ?_
            refine (AllReadyH.cons rfl (fun K hK => ?_) AllReadyH.nil)
            go_simp
            refine hK.out _ _ (hAll3.out _ (by repeat (first | (with_reducible assumption) | exact Below.refl _ _ | (with_reducible refine ua1 ?_) | (with_reducible refine Below.setCell ?_ (by first | omega | (simp <;> omega)) _) | (with_reducible refine Below.drew ?_)))) (fun hS4 => ?_)
            clear hK K
            (try go_simp)
            refine wpAnyH_take (i := 13) (v := ?_) rfl (by kernel_rfl) (by kernel_rfl) (by kernel_rfl) (fun _ _ _ h => h) (Or.inl ⟨by rfl, ?_⟩) hS4 ?_
            rotate_left
            · (intro W _; go_simp; (try with_reducible rfl))
            (try go_simp)
            refine wpAnyH_done (by kernel_rfl) ?_ _
            (try go_simp)
            go_wp2_with fail
            go_meet
            exact ⟨_, rfl, rfl, (by repeat (first | (with_reducible assumption) | exact Below.refl _ _ | (with_reducible refine ua1 ?_) | (with_reducible refine Below.setCell ?_ (by first | omega | (simp <;> omega)) _) | (with_reducible refine Below.drew ?_))), by first | omega | (simp <;> omega), by simp [go_sem, cell_set, *], by simp [go_sem, cell_set, *]⟩
          · skip
            go_simp
            refine hK.out _ _ (hAll3.out _ (by repeat (first | (with_reducible assumption) | exact Below.refl _ _ | (with_reducible refine ua1 ?_) | (with_reducible refine Below.setCell ?_ (by first | omega | (simp <;> omega)) _) | (with_reducible refine Below.drew ?_)))) (fun hS5 => ?_)
            clear hK K
            (try go_simp)
            refine wpAnyH_ready (rs := [7]) (by kernel_rfl) (by simp) ?_
            refine (AllReadyH.cons rfl (fun K hK => ?_) AllReadyH.nil)
            go_simp
            go_wp2_with (go_at_call 59; refine (hva _ _ _ (hy6.below (by repeat (first | (with_reducible assumption) | exact Below.refl _ _ | (with_reducible refine ua1 ?_) | (with_reducible refine Below.setCell ?_ (by first | omega | (simp <;> omega)) _) | (with_reducible refine Below.drew ?_))) (Nat.le_refl _))).mono ?_; rintro e wp ⟨rfl, hbp⟩; have hTp : Below w2.heap.size w2 wp := below_call (by repeat (first | (with_reducible assumption) | exact Below.refl _ _ | (with_reducible refine ua1 ?_) | (with_reducible refine Below.setCell ?_ (by first | omega | (simp <;> omega)) _) | (with_reducible refine Below.drew ?_))) hbp (by first | omega | (simp <;> omega)); have hzp := hTp.size)
            have cbxwp_0 : wp.cell? ⟨wq.heap.size, 0, none⟩ = some (.int .i64 0) := (hbp.cell (p := ⟨wq.heap.size, 0, none⟩) (by first | omega | (simp <;> omega))).trans (by first | exact nocell_0 | (simp [go_sem]))
            have fbxwp_0 : wp.frozen? ⟨wq.heap.size, 0, none⟩ = false := (hbp.frozen (p := ⟨wq.heap.size, 0, none⟩) (by first | omega | (simp <;> omega))).trans (by first | exact nofrozen_0 | (simp [go_sem]))
            have cbxwp_1 : wp.cell? ⟨wq.heap.size, 1, none⟩ = some (.int .i64 0) := (hbp.cell (p := ⟨wq.heap.size, 1, none⟩) (by first | omega | (simp <;> omega))).trans (by first | exact nocell_1 | (simp [go_sem]))
            have fbxwp_1 : wp.frozen? ⟨wq.heap.size, 1, none⟩ = false := (hbp.frozen (p := ⟨wq.heap.size, 1, none⟩) (by first | omega | (simp <;> omega))).trans (by first | exact nofrozen_1 | (simp [go_sem]))
            have lbxwp : wq.heap.size < wp.heap.size := by have := hbp.size; first | omega | (simp at this; omega)
            refine hK.out _ _ (hAll3.out _ (by repeat (first | (with_reducible assumption) | exact Below.refl _ _ | (with_reducible refine ua1 ?_) | (with_reducible refine Below.setCell ?_ (by first | omega | (simp <;> omega)) _) | (with_reducible refine Below.drew ?_)))) (fun hS6 => ?_)
            clear hK K
            (try go_simp)
            refine wpAnyH_take (i := 8) (v := ?_) rfl (by kernel_rfl) (by kernel_rfl) (by kernel_rfl) (fun _ _ _ h => h) (Or.inl ⟨by rfl, ?_⟩) hS6 ?_
            rotate_left
            · (intro W _; go_simp; (try with_reducible rfl))
            (try go_simp)
            refine wpAnyH_take (i := 9) (v := ?_) rfl (by kernel_rfl) (by kernel_rfl) (by kernel_rfl) (fun _ _ _ h => h) (Or.inl ⟨by rfl, ?_⟩) hS6 ?_
            rotate_left
            · (intro W _; go_simp; (try with_reducible rfl))
            (try go_simp)
            refine wpAnyH_take (i := 10) (v := ?_) rfl (by kernel_rfl) (by kernel_rfl) (by kernel_rfl) (fun _ _ _ h => h) (Or.inl ⟨by rfl, ?_⟩) hS6 ?_
            rotate_left
            · (intro W _; go_simp; (try with_reducible rfl))
            (try go_simp)
            refine wpAnyH_ready (rs := [12]) (by kernel_rfl) (by simp) ?_
            refine (AllReadyH.cons rfl (fun K hK => ?_) AllReadyH.nil)
            go_simp
            refine hK.out _ _ (hAll3.out _ (by repeat (first | (with_reducible assumption) | exact Below.refl _ _ | (with_reducible refine ua1 ?_) | (with_reducible refine Below.setCell ?_ (by first | omega | (simp <;> omega)) _) | (with_reducible refine Below.drew ?_)))) (fun hS7 => ?_)
            clear hK K
            (try go_simp)
            refine wpAnyH_take (i := 13) (v := ?_) rfl (by kernel_rfl) (by kernel_rfl) (by kernel_rfl) (fun _ _ _ h => h) (Or.inl ⟨by rfl, ?_⟩) hS7 ?_
            rotate_left
            · (intro W _; go_simp; (try with_reducible rfl))
            (try go_simp)
            refine wpAnyH_done (by kernel_rfl) ?_ _
            (try go_simp)
            go_wp2_with fail
            go_meet
            exact ⟨_, rfl, rfl, (by repeat (first | (with_reducible assumption) | exact Below.refl _ _ | (with_reducible refine ua1 ?_) | (with_reducible refine Below.setCell ?_ (by first | omega | (simp <;> omega)) _) | (with_reducible refine Below.drew ?_))), by first | omega | (simp <;> omega), by simp [go_sem, cell_set, *], by simp [go_sem, cell_set, *]⟩
        · skip
          go_simp
          refine hK.out _ _ (hAll3.out _ (by repeat (first | (with_reducible assumption) | exact Below.refl _ _ | (with_reducible refine ua1 ?_) | (with_reducible refine Below.setCell ?_ (by first | omega | (simp <;> omega)) _) | (with_reducible refine Below.drew ?_)))) (fun hS8 => ?_)
          clear hK K
          (try go_simp)
          refine wpAnyH_ready (rs := [1]) (by kernel_rfl) (by simp) ?_
          refine (AllReadyH.cons rfl (fun K hK => ?_) AllReadyH.nil)
          go_simp
          go_wp2_with (go_at_call 60; refine (h1 _ (ht.below (below_call (hB1_2) (by repeat (first | (with_reducible assumption) | exact Below.refl _ _ | (with_reducible refine ua1 ?_) | (with_reducible refine Below.setCell ?_ (by first | omega | (simp <;> omega)) _) | (with_reducible refine Below.drew ?_))) (by omega)) (Nat.le_refl _))).mono ?_; rintro e wq ⟨A6, c6, rfl, hc6, hm6, hy6, hbq⟩; have hTq : Below w2.heap.size w2 wq := below_call (by repeat (first | (with_reducible assumption) | exact Below.refl _ _ | (with_reducible refine ua1 ?_) | (with_reducible refine Below.setCell ?_ (by first | omega | (simp <;> omega)) _) | (with_reducible refine Below.drew ?_))) hbq (by first | omega | (simp <;> omega)); replace hy6 := hy6.mono (Nat.zero_le _); have hzq := hTq.size)
          have cbxwq_0 : wq.cell? ⟨w2.heap.size, 0, none⟩ = some (.int .i64 0) := (hbq.cell (p := ⟨w2.heap.size, 0, none⟩) (by first | omega | (simp <;> omega))).trans (by first | exact nocell_0 | (simp [go_sem]))
          have fbxwq_0 : wq.frozen? ⟨w2.heap.size, 0, none⟩ = false := (hbq.frozen (p := ⟨w2.heap.size, 0, none⟩) (by first | omega | (simp <;> omega))).trans (by first | exact nofrozen_0 | (simp [go_sem]))
          have cbxwq_1 : wq.cell? ⟨w2.heap.size, 1, none⟩ = some (.int .i64 0) := (hbq.cell (p := ⟨w2.heap.size, 1, none⟩) (by first | omega | (simp <;> omega))).trans (by first | exact nocell_1 | (simp [go_sem]))
          have fbxwq_1 : wq.frozen? ⟨w2.heap.size, 1, none⟩ = false := (hbq.frozen (p := ⟨w2.heap.size, 1, none⟩) (by first | omega | (simp <;> omega))).trans (by first | exact nofrozen_1 | (simp [go_sem]))
          have lbxwq : w2.heap.size < wq.heap.size := by have := hbq.size; first | omega | (simp at this; omega)
          refine hK.out _ _ (hAll3.out _ (by repeat (first | (with_reducible assumption) | exact Below.refl _ _ | (with_reducible refine ua1 ?_) | (with_reducible refine Below.setCell ?_ (by first | omega | (simp <;> omega)) _) | (with_reducible refine Below.drew ?_)))) (fun hS9 => ?_)
          clear hK K
          (try go_simp)
          refine wpAnyH_ready (rs := [7]) (by kernel_rfl) (by simp) ?_
          refine (AllReadyH.cons rfl (fun K hK => ?_) AllReadyH.nil)
          go_simp
          go_wp2_with (go_at_call 59; refine (hva _ _ _ (hy6.below (by repeat (first | (with_reducible assumption) | exact Below.refl _ _ | (with_reducible refine ua1 ?_) | (with_reducible refine Below.setCell ?_ (by first | omega | (simp <;> omega)) _) | (with_reducible refine Below.drew ?_))) (Nat.le_refl _))).mono ?_; rintro e wp ⟨rfl, hbp⟩; have hTp : Below w2.heap.size w2 wp := below_call (by repeat (first | (with_reducible assumption) | exact Below.refl _ _ | (with_reducible refine ua1 ?_) | (with_reducible refine Below.setCell ?_ (by first | omega | (simp <;> omega)) _) | (with_reducible refine Below.drew ?_))) hbp (by first | omega | (simp <;> omega)); have hzp := hTp.size)
          have cbxwp_0 : wp.cell? ⟨w2.heap.size, 0, none⟩ = some (.int .i64 0) := (hbp.cell (p := ⟨w2.heap.size, 0, none⟩) (by first | omega | (simp <;> omega))).trans (by first | exact cbxwq_0 | (simp [go_sem]))
          have fbxwp_0 : wp.frozen? ⟨w2.heap.size, 0, none⟩ = false := (hbp.frozen (p := ⟨w2.heap.size, 0, none⟩) (by first | omega | (simp <;> omega))).trans (by first | exact fbxwq_0 | (simp [go_sem]))
          have cbxwp_1 : wp.cell? ⟨w2.heap.size, 1, none⟩ = some (.int .i64 0) := (hbp.cell (p := ⟨w2.heap.size, 1, none⟩) (by first | omega | (simp <;> omega))).trans (by first | exact cbxwq_1 | (simp [go_sem]))
          have fbxwp_1 : wp.frozen? ⟨w2.heap.size, 1, none⟩ = false := (hbp.frozen (p := ⟨w2.heap.size, 1, none⟩) (by first | omega | (simp <;> omega))).trans (by first | exact fbxwq_1 | (simp [go_sem]))
          have lbxwp : w2.heap.size < wp.heap.size := by have := hbp.size; first | omega | (simp at this; omega)
          refine hK.out _ _ (hAll3.out _ (by repeat (first | (with_reducible assumption) | exact Below.refl _ _ | (with_reducible refine ua1 ?_) | (with_reducible refine Below.setCell ?_ (by first | omega | (simp <;> omega)) _) | (with_reducible refine Below.drew ?_)))) (fun hS10 => ?_)
          clear hK K
          (try go_simp)
          refine wpAnyH_take (i := 8) (v := ?_) rfl (by kernel_rfl) (by kernel_rfl) (by kernel_rfl) (fun _ _ _ h => h) (Or.inl ⟨by rfl, ?_⟩) hS10 ?_
          rotate_left
          · (intro W _; go_simp; (try with_reducible rfl))
          (try go_simp)
          refine wpAnyH_take (i := 9) (v := ?_) rfl (by kernel_rfl) (by kernel_rfl) (by kernel_rfl) (fun _ _ _ h => h) (Or.inl ⟨by rfl, ?_⟩) hS10 ?_
          rotate_left
          · (intro W _; go_simp; (try with_reducible rfl))
          (try go_simp)
          refine wpAnyH_take (i := 10) (v := ?_) rfl (by kernel_rfl) (by kernel_rfl) (by kernel_rfl) (fun _ _ _ h => h) (Or.inl ⟨by rfl, ?_⟩) hS10 ?_
          rotate_left
          · (intro W _; go_simp; (try with_reducible rfl))
          (try go_simp)
          refine wpAnyH_ready (rs := [12]) (by kernel_rfl) (by simp) ?_
          refine (AllReadyH.cons rfl (fun K hK => ?_) AllReadyH.nil)
          go_simp
          refine hK.out _ _ (hAll3.out _ (by repeat (first | (with_reducible assumption) | exact Below.refl _ _ | (with_reducible refine ua1 ?_) | (with_reducible refine Below.setCell ?_ (by first | omega | (simp <;> omega)) _) | (with_reducible refine Below.drew ?_)))) (fun hS11 => ?_)
          clear hK K
          (try go_simp)
          refine wpAnyH_take (i := 13) (v := ?_) rfl (by kernel_rfl) (by kernel_rfl) (by kernel_rfl) (fun _ _ _ h => h) (Or.inl ⟨by rfl, ?_⟩) hS11 ?_
          rotate_left
          · (intro W _; go_simp; (try with_reducible rfl))
          (try go_simp)
          refine wpAnyH_done (by kernel_rfl) ?_ _
          (try go_simp)
          go_wp2_with fail
          go_meet
          exact ⟨_, rfl, rfl, (by repeat (first | (with_reducible assumption) | exact Below.refl _ _ | (with_reducible refine ua1 ?_) | (with_reducible refine Below.setCell ?_ (by first | omega | (simp <;> omega)) _) | (with_reducible refine Below.drew ?_))), by first | omega | (simp <;> omega), by simp [go_sem, cell_set, *], by simp [go_sem, cell_set, *]⟩
      case rest =>
        obtain ⟨p30, rfl, rfl, I3⟩ := hcut
        obtain ⟨w3, hw3, hb3⟩ : ∃ x, x = _ ∧ Below w2.heap.size w2 x := ⟨_, rfl, I3.out.1⟩
        subst hw3
        obtain ⟨-, l30, f3_b4_0, f3_b4_1⟩ := I3.out
        clear I3
        replace x0 := (hb3.cell (p := ⟨g, k * 2, none⟩) hgw2).trans x0
        replace x1 := (hb3.cell (p := ⟨g, k * 2 + 1, none⟩) hgw2).trans x1
        have hz3 := hb3.size
        (try simp only [World.size_alloc, World.size_setCell, World.size_drew] at hz3)
        have hB1_3 : Below w1.heap.size w1 w3 := ub0 (hB1_2) hb3
        clear hB1_2
        have f3_b0_0 := up0 hb3 (by omega) f2_b0_0
        have f3_b0_1 := up0 hb3 (by omega) f2_b0_1
        have f3_b1_0 := up0 hb3 (by omega) f2_b1_0
        have f3_b1_1 := up0 hb3 (by omega) f2_b1_1
        have f3_b2_0 := up0 hb3 (by omega) f2_b2_0
        have f3_b2_1 := up0 hb3 (by omega) f2_b2_1
        have f3_b3_0 := up0 hb3 (by omega) f2_b3_0
        have f3_b3_1 := up0 hb3 (by omega) f2_b3_1
        have hB3 : Below w.heap.size w w3 := ub0 (hB2) hb3
        clear hb3 hB2 f2_b0_0 f2_b0_1 f2_b1_0 f2_b1_1 f2_b2_0 f2_b2_1 f2_b3_0 f2_b3_1
        have l3_0 : p14 < w3.heap.size := by omega
        have l3_1 : p15 < w3.heap.size := by omega
        have l3_2 : p17 < w3.heap.size := by omega
        have l3_3 : p19 < w3.heap.size := by omega
        clear l2_0 l2_1 l2_2 l2_3
        have hgw3 : g < w3.heap.size := by have := hB1_3.size; omega
        by_cases hin : a ≤ x ∧ x ≤ b
        · skip
          obtain ⟨g0, g1⟩ := hin
          have q1 := fun W => has_yes a b x ⟨g0, g1⟩ W
          have q2 := fun W => has_yes m0 m1 y (hha g0 g1) W
          have hAll4 : Aside (∀ W, Below w3.heap.size w3 W → (Below w3.heap.size w3 W ∧ W.cell? ⟨p14, 0, none⟩ = some (.int .i64 r0) ∧ W.cell? ⟨p14, 1, none⟩ = some (.int .i64 r1) ∧ W.cell? ⟨p15, 0, none⟩ = some (.int .i64 v0) ∧ W.cell? ⟨p15, 1, none⟩ = some (.int .i64 v1) ∧ W.cell? ⟨p17, 0, none⟩ = some (.int .i64 u0) ∧ W.cell? ⟨p17, 1, none⟩ = some (.int .i64 u1) ∧ W.cell? ⟨p19, 0, none⟩ = some (.int .i64 m0) ∧ W.cell? ⟨p19, 1, none⟩ = some (.int .i64 m1) ∧ W.cell? ⟨p30, 0, none⟩ = some (.int .i64 y) ∧ W.cell? ⟨p30, 1, none⟩ = some (.int .i64 y) ∧ W.cell? ⟨g, k * 2, none⟩ = some (.int .i64 x) ∧ W.cell? ⟨g, k * 2 + 1, none⟩ = some (.int .i64 y))) := fun W hT => ⟨hT, (hT.cell (p := ⟨p14, 0, none⟩) (by show p14 < _; omega)).trans f3_b0_0, (hT.cell (p := ⟨p14, 1, none⟩) (by show p14 < _; omega)).trans f3_b0_1, (hT.cell (p := ⟨p15, 0, none⟩) (by show p15 < _; omega)).trans f3_b1_0, (hT.cell (p := ⟨p15, 1, none⟩) (by show p15 < _; omega)).trans f3_b1_1, (hT.cell (p := ⟨p17, 0, none⟩) (by show p17 < _; omega)).trans f3_b2_0, (hT.cell (p := ⟨p17, 1, none⟩) (by show p17 < _; omega)).trans f3_b2_1, (hT.cell (p := ⟨p19, 0, none⟩) (by show p19 < _; omega)).trans f3_b3_0, (hT.cell (p := ⟨p19, 1, none⟩) (by show p19 < _; omega)).trans f3_b3_1, (hT.cell (p := ⟨p30, 0, none⟩) (by show p30 < _; omega)).trans f3_b4_0, (hT.cell (p := ⟨p30, 1, none⟩) (by show p30 < _; omega)).trans f3_b4_1, (hT.cell (p := ⟨g, k * 2, none⟩) hgw3).trans x0, (hT.cell (p := ⟨g, k * 2 + 1, none⟩) hgw3).trans x1⟩
          go_upto_region 37 with (fail)
          go_cut [301] (fun s301 wx => s301 = .bool false ∧ Aside (Below w3.heap.size w3 wx ∧ True))
          case first =>
            refine wp_region_held_drew (S := fun W => Below w3.heap.size w3 W ∧ W.cell? ⟨p14, 0, none⟩ = some (.int .i64 r0) ∧ W.cell? ⟨p14, 1, none⟩ = some (.int .i64 r1) ∧ W.cell? ⟨p15, 0, none⟩ = some (.int .i64 v0) ∧ W.cell? ⟨p15, 1, none⟩ = some (.int .i64 v1) ∧ W.cell? ⟨p17, 0, none⟩ = some (.int .i64 u0) ∧ W.cell? ⟨p17, 1, none⟩ = some (.int .i64 u1) ∧ W.cell? ⟨p19, 0, none⟩ = some (.int .i64 m0) ∧ W.cell? ⟨p19, 1, none⟩ = some (.int .i64 m1) ∧ W.cell? ⟨p30, 0, none⟩ = some (.int .i64 y) ∧ W.cell? ⟨p30, 1, none⟩ = some (.int .i64 y) ∧ W.cell? ⟨g, k * 2, none⟩ = some (.int .i64 x) ∧ W.cell? ⟨g, k * 2 + 1, none⟩ = some (.int .i64 y)) (by kernel_rfl) (hAll4.out _ (by repeat (first | (with_reducible assumption) | exact Below.refl _ _ | (with_reducible refine ua1 ?_) | (with_reducible refine Below.setCell ?_ (by first | omega | (simp <;> omega)) _) | (with_reducible refine Below.drew ?_)))) (fun hS0 => ?_)
            refine wpAnyH_take (i := 0) (v := ?_) rfl (by kernel_rfl) (by kernel_rfl) (by kernel_rfl) (fun _ _ _ h => h) (Or.inl ⟨by rfl, ?_⟩) hS0 ?_
            rotate_left
            · (intro W _; go_simp; (try with_reducible rfl))
            (try go_simp)
            refine wpAnyH_take (i := 1) (v := ?_) rfl (by kernel_rfl) (by kernel_rfl) (by kernel_rfl) (fun _ _ _ h => h) (Or.inl ⟨by rfl, ?_⟩) hS0 ?_
            rotate_left
            · (intro W _; go_simp; (try with_reducible rfl))
            (try go_simp)
            refine wpAnyH_take (i := 2) (v := ?_) rfl (by kernel_rfl) (by kernel_rfl) (by kernel_rfl) (fun _ _ _ h => h) (Or.inl ⟨by rfl, ?_⟩) hS0 ?_
            rotate_left
            · (intro W _; go_simp; (try with_reducible rfl))
            (try go_simp)
            refine wpAnyH_take (i := 3) (v := ?_) rfl (by kernel_rfl) (by kernel_rfl) (by kernel_rfl) (fun _ _ _ h => h) (Or.inl ⟨by rfl, ?_⟩) hS0 ?_
            rotate_left
            · (intro W hSw; (try dsimp only at hSw); go_split_ands; go_simp; (try with_reducible rfl))
            (try go_simp)
            refine wpAnyH_take (i := 4) (v := ?_) rfl (by kernel_rfl) (by kernel_rfl) (by kernel_rfl) (fun _ _ _ h => h) (Or.inl ⟨by rfl, ?_⟩) hS0 ?_
            rotate_left
            · (intro W _; go_simp; (try with_reducible rfl))
            (try go_simp)
            refine wpAnyH_take (i := 5) (v := ?_) rfl (by kernel_rfl) (by kernel_rfl) (by kernel_rfl) (fun _ _ _ h => h) (Or.inl ⟨by rfl, ?_⟩) hS0 ?_
            rotate_left
            · (intro W _; go_simp; (try with_reducible rfl))
            (try go_simp)
            refine wpAnyH_take (i := 6) (v := ?_) rfl (by kernel_rfl) (by kernel_rfl) (by kernel_rfl) (fun _ _ _ h => h) (Or.inl ⟨by rfl, ?_⟩) hS0 ?_
            rotate_left
            · (intro W _; go_simp; (try with_reducible rfl))
            (try go_simp)
            refine wpAnyH_take (i := 7) (v := ?_) rfl (by kernel_rfl) (by kernel_rfl) (by kernel_rfl) (fun _ _ _ h => h) (Or.inl ⟨by rfl, ?_⟩) hS0 ?_
            rotate_left
            · (intro W _; go_simp; (try with_reducible rfl))
            (try go_simp)
            refine wpAnyH_take (i := 8) (v := ?_) rfl (by kernel_rfl) (by kernel_rfl) (by kernel_rfl) (fun _ _ _ h => h) (Or.inl ⟨by rfl, ?_⟩) hS0 ?_
            rotate_left
            · (intro W hSw; (try dsimp only at hSw); go_split_ands; go_simp; (try with_reducible rfl))
            (try go_simp)
            refine wpAnyH_take (i := 9) (v := ?_) rfl (by kernel_rfl) (by kernel_rfl) (by kernel_rfl) (fun _ _ _ h => h) (Or.inl ⟨by rfl, ?_⟩) hS0 ?_
            rotate_left
            · (intro W _; go_simp; (try with_reducible rfl))
            (try go_simp)
            refine wpAnyH_take (i := 10) (v := ?_) rfl (by kernel_rfl) (by kernel_rfl) (by kernel_rfl) (fun _ _ _ h => h) (Or.inl ⟨by rfl, ?_⟩) hS0 ?_
            rotate_left
            · (intro W _; go_simp; (try with_reducible rfl))
            (try go_simp)
            refine wpAnyH_take (i := 11) (v := ?_) rfl (by kernel_rfl) (by kernel_rfl) (by kernel_rfl) (fun _ _ _ h => h) (Or.inl ⟨by rfl, ?_⟩) hS0 ?_
            rotate_left
            · (intro W _; go_simp; (try with_reducible rfl))
            (try go_simp)
            refine wpAnyH_take (i := 12) (v := ?_) rfl (by kernel_rfl) (by kernel_rfl) (by kernel_rfl) (fun _ _ _ h => h) (Or.inl ⟨by rfl, ?_⟩) hS0 ?_
            rotate_left
            · (intro W _; go_simp; (try with_reducible rfl))
            (try go_simp)
            refine wpAnyH_take (i := 13) (v := ?_) rfl (by kernel_rfl) (by kernel_rfl) (by kernel_rfl) (fun _ _ _ h => h) (Or.inl ⟨by rfl, ?_⟩) hS0 ?_
            rotate_left
            · (intro W hSw; (try dsimp only at hSw); go_split_ands; go_simp; (try with_reducible rfl))
            (try go_simp)
            refine wpAnyH_take (i := 14) (v := ?_) rfl (by kernel_rfl) (by kernel_rfl) (by kernel_rfl) (fun _ _ _ h => h) (Or.inl ⟨by rfl, ?_⟩) hS0 ?_
            rotate_left
            · (intro W _; go_simp; (try with_reducible rfl))
            (try go_simp)
            refine wpAnyH_take (i := 15) (v := ?_) rfl (by kernel_rfl) (by kernel_rfl) (by kernel_rfl) (fun _ _ _ h => h) (Or.inl ⟨by rfl, ?_⟩) hS0 ?_
            rotate_left
            · (intro W _; go_simp; (try with_reducible rfl))
            (try go_simp)
            refine wpAnyH_take (i := 16) (v := ?_) rfl (by kernel_rfl) (by kernel_rfl) (by kernel_rfl) (fun _ _ _ h => h) (Or.inl ⟨by rfl, ?_⟩) hS0 ?_
            rotate_left
            · (intro W _; go_simp; (try with_reducible rfl))
            (try go_simp)
            refine wpAnyH_take (i := 17) (v := ?_) rfl (by kernel_rfl) (by kernel_rfl) (by kernel_rfl) (fun _ _ _ h => h) (Or.inl ⟨by rfl, ?_⟩) hS0 ?_
            rotate_left
            · (intro W _; go_simp; (try with_reducible rfl))
            (try go_simp)
            refine wpAnyH_take (i := 18) (v := ?_) rfl (by kernel_rfl) (by kernel_rfl) (by kernel_rfl) (fun _ _ _ h => h) (Or.inl ⟨by rfl, ?_⟩) hS0 ?_
            rotate_left
            · (intro W _; go_simp; (try with_reducible rfl))
            (try go_simp)
            refine wpAnyH_take (i := 19) (v := ?_) rfl (by kernel_rfl) (by kernel_rfl) (by kernel_rfl) (fun _ _ _ h => h) (Or.inl ⟨by rfl, ?_⟩) hS0 ?_
            rotate_left
            · (intro W _; go_simp; (try with_reducible rfl))
            (try go_simp)
            refine wpAnyH_take (i := 20) (v := ?_) rfl (by kernel_rfl) (by kernel_rfl) (by kernel_rfl) (fun _ _ _ h => h) (Or.inl ⟨by rfl, ?_⟩) hS0 ?_
            rotate_left
            · (intro W _; go_simp; (try with_reducible rfl))
            (try go_simp)
            refine wpAnyH_take (i := 21) (v := ?_) rfl (by kernel_rfl) (by kernel_rfl) (by kernel_rfl) (fun _ _ _ h => h) (Or.inl ⟨by rfl, ?_⟩) hS0 ?_
            rotate_left
            · (intro W _; go_simp; (try with_reducible rfl))
            (try go_simp)
            refine wpAnyH_take (i := 22) (v := ?_) rfl (by kernel_rfl) (by kernel_rfl) (by kernel_rfl) (fun _ _ _ h => h) (Or.inl ⟨by rfl, ?_⟩) hS0 ?_
            rotate_left
            · (intro W _; go_simp; (try with_reducible rfl))
            (try go_simp)
            refine wpAnyH_take (i := 23) (v := ?_) rfl (by kernel_rfl) (by kernel_rfl) (by kernel_rfl) (fun _ _ _ h => h) (Or.inl ⟨by rfl, ?_⟩) hS0 ?_
            rotate_left
            · (intro W _; go_simp; (try with_reducible rfl))
            (try go_simp)
            refine wpAnyH_take (i := 24) (v := ?_) rfl (by kernel_rfl) (by kernel_rfl) (by kernel_rfl) (fun _ _ _ h => h) (Or.inl ⟨by rfl, ?_⟩) hS0 ?_
            rotate_left
            · (intro W _; go_simp; (try with_reducible rfl))
            (try go_simp)
            refine wpAnyH_take (i := 25) (v := ?_) rfl (by kernel_rfl) (by kernel_rfl) (by kernel_rfl) (fun _ _ _ h => h) (Or.inl ⟨by rfl, ?_⟩) hS0 ?_
            rotate_left
            · (intro W hSw; (try dsimp only at hSw); go_split_ands; go_simp; (try with_reducible rfl))
            (try go_simp)
            refine wpAnyH_ready (rs := [26]) (by kernel_rfl) (by simp) ?_
            refine (AllReadyH.cons rfl (fun K hK => ?_) AllReadyH.nil)
            go_simp
            go_wp2_with (go_at_call 65; refine (q1 _).mono ?_; rintro e wq0 ⟨rfl, hbq⟩; have hTq0 : Below w3.heap.size w3 wq0 := below_call (by repeat (first | (with_reducible assumption) | exact Below.refl _ _ | (with_reducible refine ua1 ?_) | (with_reducible refine Below.setCell ?_ (by first | omega | (simp <;> omega)) _) | (with_reducible refine Below.drew ?_))) hbq (by first | omega | (simp <;> omega)); have hzq0 := hTq0.size)
            refine hK.out _ _ (hAll4.out _ (by repeat (first | (with_reducible assumption) | exact Below.refl _ _ | (with_reducible refine ua1 ?_) | (with_reducible refine Below.setCell ?_ (by first | omega | (simp <;> omega)) _) | (with_reducible refine Below.drew ?_)))) (fun hS1 => ?_)
            clear hK K
            (try go_simp)
            refine wpAnyH_take (i := 27) (v := ?_) rfl (by kernel_rfl) (by kernel_rfl) (by kernel_rfl) (fun _ _ _ h => h) (Or.inl ⟨by rfl, ?_⟩) hS1 ?_
            rotate_left
            · (intro W _; go_simp; (try with_reducible rfl))
            (try go_simp)
            refine wpAnyH_take (i := 28) (v := ?_) rfl (by kernel_rfl) (by kernel_rfl) (by kernel_rfl) (fun _ _ _ h => h) (Or.inl ⟨by rfl, ?_⟩) hS1 ?_
            rotate_left
            · (intro W hSw; (try dsimp only at hSw); go_split_ands; go_simp; (try with_reducible rfl))
            (try go_simp)
            refine wpAnyH_take (i := 29) (v := ?_) rfl (by kernel_rfl) (by kernel_rfl) (by kernel_rfl) (fun _ _ _ h => h) (Or.inl ⟨by rfl, ?_⟩) hS1 ?_
            rotate_left
            · (intro W _; go_simp; (try with_reducible rfl))
            (try go_simp)
            refine wpAnyH_take (i := 30) (v := ?_) rfl (by kernel_rfl) (by kernel_rfl) (by kernel_rfl) (fun _ _ _ h => h) (Or.inl ⟨by rfl, ?_⟩) hS1 ?_
            rotate_left
            · (intro W _; go_simp; (try with_reducible rfl))
            (try go_simp)
            refine wpAnyH_take (i := 31) (v := ?_) rfl (by kernel_rfl) (by kernel_rfl) (by kernel_rfl) (fun _ _ _ h => h) (Or.inl ⟨by rfl, ?_⟩) hS1 ?_
            rotate_left
            · (intro W _; go_simp; (try with_reducible rfl))
            (try go_simp)
            refine wpAnyH_take (i := 32) (v := ?_) rfl (by kernel_rfl) (by kernel_rfl) (by kernel_rfl) (fun _ _ _ h => h) (Or.inl ⟨by rfl, ?_⟩) hS1 ?_
            rotate_left
            · (intro W _; go_simp; (try with_reducible rfl))
            (try go_simp)
            refine wpAnyH_take (i := 33) (v := ?_) rfl (by kernel_rfl) (by kernel_rfl) (by kernel_rfl) (fun _ _ _ h => h) (Or.inl ⟨by rfl, ?_⟩) hS1 ?_
            rotate_left
            · (intro W hSw; (try dsimp only at hSw); go_split_ands; go_simp; (try with_reducible rfl))
            (try go_simp)
            refine wpAnyH_ready (rs := [34]) (by kernel_rfl) (by simp) ?_
            refine (AllReadyH.cons rfl (fun K hK => ?_) AllReadyH.nil)
            go_simp
            go_wp2_with (go_at_call 65; refine (q2 _).mono ?_; rintro e wq1 ⟨rfl, hbq⟩; have hTq1 : Below w3.heap.size w3 wq1 := below_call (by repeat (first | (with_reducible assumption) | exact Below.refl _ _ | (with_reducible refine ua1 ?_) | (with_reducible refine Below.setCell ?_ (by first | omega | (simp <;> omega)) _) | (with_reducible refine Below.drew ?_))) hbq (by first | omega | (simp <;> omega)); have hzq1 := hTq1.size)
            refine hK.out _ _ (hAll4.out _ (by repeat (first | (with_reducible assumption) | exact Below.refl _ _ | (with_reducible refine ua1 ?_) | (with_reducible refine Below.setCell ?_ (by first | omega | (simp <;> omega)) _) | (with_reducible refine Below.drew ?_)))) (fun hS2 => ?_)
            clear hK K
            (try go_simp)
            refine wpAnyH_take (i := 35) (v := ?_) rfl (by kernel_rfl) (by kernel_rfl) (by kernel_rfl) (fun _ _ _ h => h) (Or.inl ⟨by rfl, ?_⟩) hS2 ?_
            rotate_left
            · (intro W _; go_simp; (try with_reducible rfl))
            (try go_simp)
            refine wpAnyH_take (i := 36) (v := ?_) rfl (by kernel_rfl) (by kernel_rfl) (by kernel_rfl) (fun _ _ _ h => h) (Or.inl ⟨by rfl, ?_⟩) hS2 ?_
            rotate_left
            · (intro W _; go_simp; (try with_reducible rfl))
            (try go_simp)
            refine wpAnyH_take (i := 37) (v := ?_) rfl (by kernel_rfl) (by kernel_rfl) (by kernel_rfl) (fun _ _ _ h => h) (Or.inl ⟨by rfl, ?_⟩) hS2 ?_
            rotate_left
            · (intro W _; go_simp; (try with_reducible rfl))
            (try go_simp)
            refine wpAnyH_done (by kernel_rfl) ?_ _
            (try go_simp)
            go_wp2_with fail
            go_meet
            exact ⟨rfl, (by repeat (first | (with_reducible assumption) | exact Below.refl _ _ | (with_reducible refine ua1 ?_) | (with_reducible refine Below.setCell ?_ (by first | omega | (simp <;> omega)) _) | (with_reducible refine Below.drew ?_))), trivial⟩
          case rest =>
            obtain ⟨rfl, I4⟩ := hcut
            obtain ⟨w4, hw4, hb4⟩ : ∃ x, x = _ ∧ Below w3.heap.size w3 x := ⟨_, rfl, I4.out.1⟩
            subst hw4
            clear I4
            have hz4 := hb4.size
            (try simp only [World.size_alloc, World.size_setCell, World.size_drew] at hz4)
            have hB1_4 : Below w1.heap.size w1 w4 := ub0 (hB1_3) hb4
            clear hB1_3
            have f4_b0_0 := up0 hb4 (by omega) f3_b0_0
            have f4_b0_1 := up0 hb4 (by omega) f3_b0_1
            have f4_b1_0 := up0 hb4 (by omega) f3_b1_0
            have f4_b1_1 := up0 hb4 (by omega) f3_b1_1
            have f4_b2_0 := up0 hb4 (by omega) f3_b2_0
            have f4_b2_1 := up0 hb4 (by omega) f3_b2_1
            have f4_b3_0 := up0 hb4 (by omega) f3_b3_0
            have f4_b3_1 := up0 hb4 (by omega) f3_b3_1
            have f4_b4_0 := up0 hb4 (by omega) f3_b4_0
            have f4_b4_1 := up0 hb4 (by omega) f3_b4_1
            have hB4 : Below w.heap.size w w4 := ub0 (hB3) hb4
            clear hb4 hB3 f3_b0_0 f3_b0_1 f3_b1_0 f3_b1_1 f3_b2_0 f3_b2_1 f3_b3_0 f3_b3_1 f3_b4_0 f3_b4_1
            have l4_0 : p14 < w4.heap.size := by omega
            have l4_1 : p15 < w4.heap.size := by omega
            have l4_2 : p17 < w4.heap.size := by omega
            have l4_3 : p19 < w4.heap.size := by omega
            have l4_4 : p30 < w4.heap.size := by omega
            clear l3_0 l3_1 l3_2 l3_3
            go_wp2
            go_roundg (n - (k + 1))
            case measure => omega
            case rel => exact ⟨k + 1, by omega, by omega, by go_num, hB1_4⟩
        · skip
          have q1 := fun W => has_no a b x (by omega) W
          have hAll4 : Aside (∀ W, Below w3.heap.size w3 W → (Below w3.heap.size w3 W ∧ W.cell? ⟨p14, 0, none⟩ = some (.int .i64 r0) ∧ W.cell? ⟨p14, 1, none⟩ = some (.int .i64 r1) ∧ W.cell? ⟨p15, 0, none⟩ = some (.int .i64 v0) ∧ W.cell? ⟨p15, 1, none⟩ = some (.int .i64 v1) ∧ W.cell? ⟨p17, 0, none⟩ = some (.int .i64 u0) ∧ W.cell? ⟨p17, 1, none⟩ = some (.int .i64 u1) ∧ W.cell? ⟨p19, 0, none⟩ = some (.int .i64 m0) ∧ W.cell? ⟨p19, 1, none⟩ = some (.int .i64 m1) ∧ W.cell? ⟨p30, 0, none⟩ = some (.int .i64 y) ∧ W.cell? ⟨p30, 1, none⟩ = some (.int .i64 y) ∧ W.cell? ⟨g, k * 2, none⟩ = some (.int .i64 x) ∧ W.cell? ⟨g, k * 2 + 1, none⟩ = some (.int .i64 y))) := fun W hT => ⟨hT, (hT.cell (p := ⟨p14, 0, none⟩) (by show p14 < _; omega)).trans f3_b0_0, (hT.cell (p := ⟨p14, 1, none⟩) (by show p14 < _; omega)).trans f3_b0_1, (hT.cell (p := ⟨p15, 0, none⟩) (by show p15 < _; omega)).trans f3_b1_0, (hT.cell (p := ⟨p15, 1, none⟩) (by show p15 < _; omega)).trans f3_b1_1, (hT.cell (p := ⟨p17, 0, none⟩) (by show p17 < _; omega)).trans f3_b2_0, (hT.cell (p := ⟨p17, 1, none⟩) (by show p17 < _; omega)).trans f3_b2_1, (hT.cell (p := ⟨p19, 0, none⟩) (by show p19 < _; omega)).trans f3_b3_0, (hT.cell (p := ⟨p19, 1, none⟩) (by show p19 < _; omega)).trans f3_b3_1, (hT.cell (p := ⟨p30, 0, none⟩) (by show p30 < _; omega)).trans f3_b4_0, (hT.cell (p := ⟨p30, 1, none⟩) (by show p30 < _; omega)).trans f3_b4_1, (hT.cell (p := ⟨g, k * 2, none⟩) hgw3).trans x0, (hT.cell (p := ⟨g, k * 2 + 1, none⟩) hgw3).trans x1⟩
          go_upto_region 37 with (fail)
          go_cut [301] (fun s301 wx => s301 = .bool false ∧ Aside (Below w3.heap.size w3 wx ∧ True))
          case first =>
            refine wp_region_held_drew (S := fun W => Below w3.heap.size w3 W ∧ W.cell? ⟨p14, 0, none⟩ = some (.int .i64 r0) ∧ W.cell? ⟨p14, 1, none⟩ = some (.int .i64 r1) ∧ W.cell? ⟨p15, 0, none⟩ = some (.int .i64 v0) ∧ W.cell? ⟨p15, 1, none⟩ = some (.int .i64 v1) ∧ W.cell? ⟨p17, 0, none⟩ = some (.int .i64 u0) ∧ W.cell? ⟨p17, 1, none⟩ = some (.int .i64 u1) ∧ W.cell? ⟨p19, 0, none⟩ = some (.int .i64 m0) ∧ W.cell? ⟨p19, 1, none⟩ = some (.int .i64 m1) ∧ W.cell? ⟨p30, 0, none⟩ = some (.int .i64 y) ∧ W.cell? ⟨p30, 1, none⟩ = some (.int .i64 y) ∧ W.cell? ⟨g, k * 2, none⟩ = some (.int .i64 x) ∧ W.cell? ⟨g, k * 2 + 1, none⟩ = some (.int .i64 y)) (by kernel_rfl) (hAll4.out _ (by repeat (first | (with_reducible assumption) | exact Below.refl _ _ | (with_reducible refine ua1 ?_) | (with_reducible refine Below.setCell ?_ (by first | omega | (simp <;> omega)) _) | (with_reducible refine Below.drew ?_)))) (fun hS0 => ?_)
            refine wpAnyH_take (i := 0) (v := ?_) rfl (by kernel_rfl) (by kernel_rfl) (by kernel_rfl) (fun _ _ _ h => h) (Or.inl ⟨by rfl, ?_⟩) hS0 ?_
            rotate_left
            · (intro W _; go_simp; (try with_reducible rfl))
            (try go_simp)
            refine wpAnyH_take (i := 1) (v := ?_) rfl (by kernel_rfl) (by kernel_rfl) (by kernel_rfl) (fun _ _ _ h => h) (Or.inl ⟨by rfl, ?_⟩) hS0 ?_
            rotate_left
            · (intro W _; go_simp; (try with_reducible rfl))
            (try go_simp)
            refine wpAnyH_take (i := 2) (v := ?_) rfl (by kernel_rfl) (by kernel_rfl) (by kernel_rfl) (fun _ _ _ h => h) (Or.inl ⟨by rfl, ?_⟩) hS0 ?_
            rotate_left
            · (intro W _; go_simp; (try with_reducible rfl))
            (try go_simp)
            refine wpAnyH_take (i := 3) (v := ?_) rfl (by kernel_rfl) (by kernel_rfl) (by kernel_rfl) (fun _ _ _ h => h) (Or.inl ⟨by rfl, ?_⟩) hS0 ?_
            rotate_left
            · (intro W hSw; (try dsimp only at hSw); go_split_ands; go_simp; (try with_reducible rfl))
            (try go_simp)
            refine wpAnyH_take (i := 4) (v := ?_) rfl (by kernel_rfl) (by kernel_rfl) (by kernel_rfl) (fun _ _ _ h => h) (Or.inl ⟨by rfl, ?_⟩) hS0 ?_
            rotate_left
            · (intro W _; go_simp; (try with_reducible rfl))
            (try go_simp)
            refine wpAnyH_take (i := 5) (v := ?_) rfl (by kernel_rfl) (by kernel_rfl) (by kernel_rfl) (fun _ _ _ h => h) (Or.inl ⟨by rfl, ?_⟩) hS0 ?_
            rotate_left
            · (intro W _; go_simp; (try with_reducible rfl))
            (try go_simp)
            refine wpAnyH_take (i := 6) (v := ?_) rfl (by kernel_rfl) (by kernel_rfl) (by kernel_rfl) (fun _ _ _ h => h) (Or.inl ⟨by rfl, ?_⟩) hS0 ?_
            rotate_left
            · (intro W _; go_simp; (try with_reducible rfl))
            (try go_simp)
            refine wpAnyH_take (i := 7) (v := ?_) rfl (by kernel_rfl) (by kernel_rfl) (by kernel_rfl) (fun _ _ _ h => h) (Or.inl ⟨by rfl, ?_⟩) hS0 ?_
            rotate_left
            · (intro W _; go_simp; (try with_reducible rfl))
            (try go_simp)
            refine wpAnyH_take (i := 8) (v := ?_) rfl (by kernel_rfl) (by kernel_rfl) (by kernel_rfl) (fun _ _ _ h => h) (Or.inl ⟨by rfl, ?_⟩) hS0 ?_
            rotate_left
            · (intro W hSw; (try dsimp only at hSw); go_split_ands; go_simp; (try with_reducible rfl))
            (try go_simp)
            refine wpAnyH_take (i := 9) (v := ?_) rfl (by kernel_rfl) (by kernel_rfl) (by kernel_rfl) (fun _ _ _ h => h) (Or.inl ⟨by rfl, ?_⟩) hS0 ?_
            rotate_left
            · (intro W _; go_simp; (try with_reducible rfl))
            (try go_simp)
            refine wpAnyH_take (i := 10) (v := ?_) rfl (by kernel_rfl) (by kernel_rfl) (by kernel_rfl) (fun _ _ _ h => h) (Or.inl ⟨by rfl, ?_⟩) hS0 ?_
            rotate_left
            · (intro W _; go_simp; (try with_reducible rfl))
            (try go_simp)
            refine wpAnyH_take (i := 11) (v := ?_) rfl (by kernel_rfl) (by kernel_rfl) (by kernel_rfl) (fun _ _ _ h => h) (Or.inl ⟨by rfl, ?_⟩) hS0 ?_
            rotate_left
            · (intro W _; go_simp; (try with_reducible rfl))
            (try go_simp)
            refine wpAnyH_take (i := 12) (v := ?_) rfl (by kernel_rfl) (by kernel_rfl) (by kernel_rfl) (fun _ _ _ h => h) (Or.inl ⟨by rfl, ?_⟩) hS0 ?_
            rotate_left
            · (intro W _; go_simp; (try with_reducible rfl))
            (try go_simp)
            refine wpAnyH_take (i := 13) (v := ?_) rfl (by kernel_rfl) (by kernel_rfl) (by kernel_rfl) (fun _ _ _ h => h) (Or.inl ⟨by rfl, ?_⟩) hS0 ?_
            rotate_left
            · (intro W hSw; (try dsimp only at hSw); go_split_ands; go_simp; (try with_reducible rfl))
            (try go_simp)
            refine wpAnyH_take (i := 14) (v := ?_) rfl (by kernel_rfl) (by kernel_rfl) (by kernel_rfl) (fun _ _ _ h => h) (Or.inl ⟨by rfl, ?_⟩) hS0 ?_
            rotate_left
            · (intro W _; go_simp; (try with_reducible rfl))
            (try go_simp)
            refine wpAnyH_take (i := 15) (v := ?_) rfl (by kernel_rfl) (by kernel_rfl) (by kernel_rfl) (fun _ _ _ h => h) (Or.inl ⟨by rfl, ?_⟩) hS0 ?_
            rotate_left
            · (intro W _; go_simp; (try with_reducible rfl))
            (try go_simp)
            refine wpAnyH_take (i := 16) (v := ?_) rfl (by kernel_rfl) (by kernel_rfl) (by kernel_rfl) (fun _ _ _ h => h) (Or.inl ⟨by rfl, ?_⟩) hS0 ?_
            rotate_left
            · (intro W _; go_simp; (try with_reducible rfl))
            (try go_simp)
            refine wpAnyH_take (i := 17) (v := ?_) rfl (by kernel_rfl) (by kernel_rfl) (by kernel_rfl) (fun _ _ _ h => h) (Or.inl ⟨by rfl, ?_⟩) hS0 ?_
            rotate_left
            · (intro W _; go_simp; (try with_reducible rfl))
            (try go_simp)
            refine wpAnyH_take (i := 18) (v := ?_) rfl (by kernel_rfl) (by kernel_rfl) (by kernel_rfl) (fun _ _ _ h => h) (Or.inl ⟨by rfl, ?_⟩) hS0 ?_
            rotate_left
            · (intro W _; go_simp; (try with_reducible rfl))
            (try go_simp)
            refine wpAnyH_take (i := 19) (v := ?_) rfl (by kernel_rfl) (by kernel_rfl) (by kernel_rfl) (fun _ _ _ h => h) (Or.inl ⟨by rfl, ?_⟩) hS0 ?_
            rotate_left
            · (intro W _; go_simp; (try with_reducible rfl))
            (try go_simp)
            refine wpAnyH_take (i := 20) (v := ?_) rfl (by kernel_rfl) (by kernel_rfl) (by kernel_rfl) (fun _ _ _ h => h) (Or.inl ⟨by rfl, ?_⟩) hS0 ?_
            rotate_left
            · (intro W _; go_simp; (try with_reducible rfl))
            (try go_simp)
            refine wpAnyH_take (i := 21) (v := ?_) rfl (by kernel_rfl) (by kernel_rfl) (by kernel_rfl) (fun _ _ _ h => h) (Or.inl ⟨by rfl, ?_⟩) hS0 ?_
            rotate_left
            · (intro W _; go_simp; (try with_reducible rfl))
            (try go_simp)
            refine wpAnyH_take (i := 22) (v := ?_) rfl (by kernel_rfl) (by kernel_rfl) (by kernel_rfl) (fun _ _ _ h => h) (Or.inl ⟨by rfl, ?_⟩) hS0 ?_
            rotate_left
            · (intro W _; go_simp; (try with_reducible rfl))
            (try go_simp)
            refine wpAnyH_take (i := 23) (v := ?_) rfl (by kernel_rfl) (by kernel_rfl) (by kernel_rfl) (fun _ _ _ h => h) (Or.inl ⟨by rfl, ?_⟩) hS0 ?_
            rotate_left
            · (intro W _; go_simp; (try with_reducible rfl))
            (try go_simp)
            refine wpAnyH_take (i := 24) (v := ?_) rfl (by kernel_rfl) (by kernel_rfl) (by kernel_rfl) (fun _ _ _ h => h) (Or.inl ⟨by rfl, ?_⟩) hS0 ?_
            rotate_left
            · (intro W _; go_simp; (try with_reducible rfl))
            (try go_simp)
            refine wpAnyH_take (i := 25) (v := ?_) rfl (by kernel_rfl) (by kernel_rfl) (by kernel_rfl) (fun _ _ _ h => h) (Or.inl ⟨by rfl, ?_⟩) hS0 ?_
            rotate_left
            · (intro W hSw; (try dsimp only at hSw); go_split_ands; go_simp; (try with_reducible rfl))
            (try go_simp)
            refine wpAnyH_ready (rs := [26]) (by kernel_rfl) (by simp) ?_
            refine (AllReadyH.cons rfl (fun K hK => ?_) AllReadyH.nil)
            go_simp
            go_wp2_with (go_at_call 65; refine (q1 _).mono ?_; rintro e wq0 ⟨rfl, hbq⟩; have hTq0 : Below w3.heap.size w3 wq0 := below_call (by repeat (first | (with_reducible assumption) | exact Below.refl _ _ | (with_reducible refine ua1 ?_) | (with_reducible refine Below.setCell ?_ (by first | omega | (simp <;> omega)) _) | (with_reducible refine Below.drew ?_))) hbq (by first | omega | (simp <;> omega)); have hzq0 := hTq0.size)
            refine hK.out _ _ (hAll4.out _ (by repeat (first | (with_reducible assumption) | exact Below.refl _ _ | (with_reducible refine ua1 ?_) | (with_reducible refine Below.setCell ?_ (by first | omega | (simp <;> omega)) _) | (with_reducible refine Below.drew ?_)))) (fun hS1 => ?_)
            clear hK K
            (try go_simp)
            refine wpAnyH_take (i := 27) (v := ?_) rfl (by kernel_rfl) (by kernel_rfl) (by kernel_rfl) (fun _ _ _ h => h) (Or.inl ⟨by rfl, ?_⟩) hS1 ?_
            rotate_left
            · (intro W _; go_simp; (try with_reducible rfl))
            (try go_simp)
            refine wpAnyH_take (i := 28) (v := undef) rfl (by kernel_rfl) (by kernel_rfl) (by kernel_rfl) (fun _ _ _ h => h) (Or.inr ⟨by rfl, rfl⟩) hS1 ?_
            (try go_simp)
            refine wpAnyH_take (i := 29) (v := undef) rfl (by kernel_rfl) (by kernel_rfl) (by kernel_rfl) (fun _ _ _ h => h) (Or.inr ⟨by rfl, rfl⟩) hS1 ?_
            (try go_simp)
            refine wpAnyH_take (i := 30) (v := undef) rfl (by kernel_rfl) (by kernel_rfl) (by kernel_rfl) (fun _ _ _ h => h) (Or.inr ⟨by rfl, rfl⟩) hS1 ?_
            (try go_simp)
            refine wpAnyH_take (i := 31) (v := undef) rfl (by kernel_rfl) (by kernel_rfl) (by kernel_rfl) (fun _ _ _ h => h) (Or.inr ⟨by rfl, rfl⟩) hS1 ?_
            (try go_simp)
            refine wpAnyH_take (i := 32) (v := undef) rfl (by kernel_rfl) (by kernel_rfl) (by kernel_rfl) (fun _ _ _ h => h) (Or.inr ⟨by rfl, rfl⟩) hS1 ?_
            (try go_simp)
            refine wpAnyH_take (i := 33) (v := undef) rfl (by kernel_rfl) (by kernel_rfl) (by kernel_rfl) (fun _ _ _ h => h) (Or.inr ⟨by rfl, rfl⟩) hS1 ?_
            (try go_simp)
            refine wpAnyH_take (i := 34) (v := undef) rfl (by kernel_rfl) (by kernel_rfl) (by kernel_rfl) (fun _ _ _ h => h) (Or.inr ⟨by rfl, rfl⟩) hS1 ?_
            (try go_simp)
            refine wpAnyH_take (i := 35) (v := undef) rfl (by kernel_rfl) (by kernel_rfl) (by kernel_rfl) (fun _ _ _ h => h) (Or.inr ⟨by rfl, rfl⟩) hS1 ?_
            (try go_simp)
            refine wpAnyH_take (i := 36) (v := ?_) rfl (by kernel_rfl) (by kernel_rfl) (by kernel_rfl) (fun _ _ _ h => h) (Or.inl ⟨by rfl, ?_⟩) hS1 ?_
            rotate_left
            · (intro W _; go_simp; (try with_reducible rfl))
            (try go_simp)
            refine wpAnyH_take (i := 37) (v := ?_) rfl (by kernel_rfl) (by kernel_rfl) (by kernel_rfl) (fun _ _ _ h => h) (Or.inl ⟨by rfl, ?_⟩) hS1 ?_
            rotate_left
            · (intro W _; go_simp; (try with_reducible rfl))
            (try go_simp)
            refine wpAnyH_done (by kernel_rfl) ?_ _
            (try go_simp)
            go_wp2_with fail
            go_meet
            exact ⟨rfl, (by repeat (first | (with_reducible assumption) | exact Below.refl _ _ | (with_reducible refine ua1 ?_) | (with_reducible refine Below.setCell ?_ (by first | omega | (simp <;> omega)) _) | (with_reducible refine Below.drew ?_))), trivial⟩
          case rest =>
            obtain ⟨rfl, I4⟩ := hcut
            obtain ⟨w4, hw4, hb4⟩ : ∃ x, x = _ ∧ Below w3.heap.size w3 x := ⟨_, rfl, I4.out.1⟩
            subst hw4
            clear I4
            have hz4 := hb4.size
            (try simp only [World.size_alloc, World.size_setCell, World.size_drew] at hz4)
            have hB1_4 : Below w1.heap.size w1 w4 := ub0 (hB1_3) hb4
            clear hB1_3
            have f4_b0_0 := up0 hb4 (by omega) f3_b0_0
            have f4_b0_1 := up0 hb4 (by omega) f3_b0_1
            have f4_b1_0 := up0 hb4 (by omega) f3_b1_0
            have f4_b1_1 := up0 hb4 (by omega) f3_b1_1
            have f4_b2_0 := up0 hb4 (by omega) f3_b2_0
            have f4_b2_1 := up0 hb4 (by omega) f3_b2_1
            have f4_b3_0 := up0 hb4 (by omega) f3_b3_0
            have f4_b3_1 := up0 hb4 (by omega) f3_b3_1
            have f4_b4_0 := up0 hb4 (by omega) f3_b4_0
            have f4_b4_1 := up0 hb4 (by omega) f3_b4_1
            have hB4 : Below w.heap.size w w4 := ub0 (hB3) hb4
            clear hb4 hB3 f3_b0_0 f3_b0_1 f3_b1_0 f3_b1_1 f3_b2_0 f3_b2_1 f3_b3_0 f3_b3_1 f3_b4_0 f3_b4_1
            have l4_0 : p14 < w4.heap.size := by omega
            have l4_1 : p15 < w4.heap.size := by omega
            have l4_2 : p17 < w4.heap.size := by omega
            have l4_3 : p19 < w4.heap.size := by omega
            have l4_4 : p30 < w4.heap.size := by omega
            clear l3_0 l3_1 l3_2 l3_3
            go_wp2
            go_roundg (n - (k + 1))
            case measure => omega
            case rel => exact ⟨k + 1, by omega, by omega, by go_num, hB1_4⟩
    · have hltz : ¬ (k : Int) < (n : Int) := by omega
      go_wp2_with fail
      exact rows_D n t P a b r0 r1 v0 v1 u0 u1 fx lx q RA hfx hlx hv hu hP hq hr hlt h2 h12 w w2 hB2 p14 p15 p17 g c7 c5 A5 f2_b0_0 f2_b0_1 f2_b1_0 f2_b1_1 f2_b2_0 f2_b2_1 l2_0 l2_1 l2_2 (ht.below hB1_2 (Nat.le_refl _)) (hP5.below hB1_2 (Nat.le_refl _))

end Go.Proofs.Ytfohdafijfjefaa
