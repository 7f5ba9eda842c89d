/- spilelaw01.SpanRows: the last statements. -/
import Derived.Test.YtfohdafijfjefaaKnown1
import Derived.Test.YtfohdafijfjefaaRowsFns
import Derived.Test.YtfohdafijfjefaaRefSums
import Derived.Deep.RegionHeld3
import Derived.Deep.AppendLies
set_option linter.unusedSimpArgs false
set_option linter.unusedVariables false
namespace Go.Proofs.Ytfohdafijfjefaa
open Go.RowKit Go.Shelf

/-- what stands in memory while the longer table is made -/
structure MoreI (w1 : World) (t : List R) (a v : Int) (k m g c : Nat) (wr : World) : Prop where
  below : Below w1.heap.size w1 wr
  own : wr.ownsRow w1.heap.size 81 2 (rowV g m c) m ((moreF a v (t.take k)).1.flatMap rCs)
  len : (moreF a v (t.take k)).1.length = m
  m1 : m ≤ k + 1
  m0 : (moreF a v (t.take k)).2 = false → m ≤ k
  no : ∀ i, i < k → (t[i]?.getD R.d).lo ≠ a

noncomputable def tail17 : Code := dropC 17 (bodyC Try.f9)
set_option maxRecDepth 100000
set_option maxHeartbeats 4000000
theorem rows_D {z0 z1 z2 z3 z4 z5 z6 z8 z9 z16 z18 z19 z20 z22 z23 z24 z25 z26 z27 z28 z29 z30 z31 z32 z33 z34 z35 z36 z37 z38 z39 z40 z41 z42 z43 z44 z45 z46 z47 z48 z49 z50 z51 z52 z53 z54 z55 z56 z57 z58 z59 z60 z61 z62 z63 z64 z65 z66 z67 z68 z69 z70 z71 z72 z73 z74 z75 z76 z77 z78 z79 z80 z81 z82 z83 z84 z85 z86 z87 z88 z89 z90 z91 z92 z93 z94 z95 z96 z97 z98 z99 z100 z101 z102 z103 z104 z105 z106 z107 z108 z109 z110 z111 z112 z113 z114 z115 z116 z117 z118 z119 z120 z121 z122 z123 z124 z125 z126 z127 z128 z129 z130 z131 z132 z133 z134 z135 z136 z137 z138 z139 z140 z141 z142 z143 z144 z145 z146 z147 z148 z149 z150 z151 z152 z153 z154 z155 z156 z157 z158 z159 z160 z161 z162 z163 z164 z165 z166 z167 z168 z169 z170 z171 z172 z173 z174 z175 z176 z177 z178 z179 z180 z181 z182 z183 z184 z185 z186 z187 z188 z189 z190 z191 z192 z193 z194 z195 z196 z197 z198 z199 z200 z201 z202 z203 z204 z205 z206 z207 z208 z209 z210 z211 z212 z213 z214 z215 z216 z217 z218 z219 z220 z221 z222 z223 z224 z225 z226 z227 z228 z229 z230 z231 z232 z233 z234 z235 z236 z237 z238 z239 z240 z241 z242 z243 z244 z245 z246 z247 z248 z249 z250 z251 z252 z253 z254 z255 z256 z257 z258 z259 z260 z261 z262 z263 z264 z265 z266 z267 z268 z269 z270 z271 z272 z273 z274 z275 z276 z277 z278 z279 z280 z281 z282 z283 z284 z285 z286 z287 z288 z289 z290 z291 z292 z293 z294 z295 z296 z297 z298 z299 z300 z301 z302 z303 z304 z305 z306 z307 z308 z309 z310 z311 z312 z313 z314 z315 z316 z317 z318 z319 z320 z321 z322 z323 z324 z325 z326 z327 z328 z329 z330 z331 z332 z333 z334 z335 z336 z337 z338 z339 z340 z341 z342 z343 z344 z345 z346 z347 z348 z349 z350 z351 z352 z353 z354 z355 z356 z357 z358 z359 z360 z361 z362 z363 z364 z365 z366 z367 z368 z369 z370 z371 z372 z373 z374 z375 z376 z377 z378 z379 z380 z381 z382 z383 z384 z385 z386 z387 z388 z389 : Value} (n : Nat) (t P : List R) (a b r0 r1 v0 v1 u0 u1 fx lx : Int) (q : Nat) (RA : RowsAt t a b) (hfx : firstX t = fx) (hlx : lastX t = lx) (hv : valS t a = ⟨v0, v1⟩) (hu : valS t b = ⟨u0, u1⟩) (hP : whF t ⟨r0, r1⟩ (t.length - 1) = P) (hq : P.length = q)
    (hr : -32768 ≤ r0 ∧ r0 ≤ r1 ∧ r1 ≤ 32767) (hlt : t.length = n) (h2 : 2 ≤ n) (h12 : n ≤ 12) (w w1 : World) (hB1 : Below w.heap.size w w1) (p14 p15 p17 g c7 c5 : Nat) (A5 : Option Addr)
    (f1_b0_0 : w1.cell? ⟨p14, 0, none⟩ = some (.int .i64 r0)) (f1_b0_1 : w1.cell? ⟨p14, 1, none⟩ = some (.int .i64 r1)) (f1_b1_0 : w1.cell? ⟨p15, 0, none⟩ = some (.int .i64 v0)) (f1_b1_1 : w1.cell? ⟨p15, 1, none⟩ = some (.int .i64 v1)) (f1_b2_0 : w1.cell? ⟨p17, 0, none⟩ = some (.int .i64 u0)) (f1_b2_1 : w1.cell? ⟨p17, 1, none⟩ = some (.int .i64 u1))
    (l1_0 : p14 < w1.heap.size) (l1_1 : p15 < w1.heap.size) (l1_2 : p17 < w1.heap.size) (ht : Ranges w1 0 (some ⟨g, 0, none⟩) t) (hP5 : Ranges w1 0 A5 P) :
    Code.wp Try.prog tail17 (bodyPost Try.prog Try.f9 fun e w' => e = .returned (.bool true) ∧ Below w.heap.size w w') ⟨#[z0, z1, z2, z3, z4, z5, z6, rowV g n c7, z8, z9, .int .i64 fx, .int .i64 lx, .int .i64 a, .int .i64 b, .pointer (some ⟨p14, 0, none⟩), .pointer (some ⟨p15, 0, none⟩), z16, .pointer (some ⟨p17, 0, none⟩), z18, z19, z20, .slice A5 q c5, z22, z23, z24, z25, z26, z27, z28, z29, z30, z31, z32, z33, z34, z35, z36, z37, z38, z39, z40, z41, z42, z43, z44, z45, z46, z47, z48, z49, z50, z51, z52, z53, z54, z55, z56, z57, z58, z59, z60, z61, z62, z63, z64, z65, z66, z67, z68, z69, z70, z71, z72, z73, z74, z75, z76, z77, z78, z79, z80, z81, z82, z83, z84, z85, z86, z87, z88, z89, z90, z91, z92, z93, z94, z95, z96, z97, z98, z99, z100, z101, z102, z103, z104, z105, z106, z107, z108, z109, z110, z111, z112, z113, z114, z115, z116, z117, z118, z119, z120, z121, z122, z123, z124, z125, z126, z127, z128, z129, z130, z131, z132, z133, z134, z135, z136, z137, z138, z139, z140, z141, z142, z143, z144, z145, z146, z147, z148, z149, z150, z151, z152, z153, z154, z155, z156, z157, z158, z159, z160, z161, z162, z163, z164, z165, z166, z167, z168, z169, z170, z171, z172, z173, z174, z175, z176, z177, z178, z179, z180, z181, z182, z183, z184, z185, z186, z187, z188, z189, z190, z191, z192, z193, z194, z195, z196, z197, z198, z199, z200, z201, z202, z203, z204, z205, z206, z207, z208, z209, z210, z211, z212, z213, z214, z215, z216, z217, z218, z219, z220, z221, z222, z223, z224, z225, z226, z227, z228, z229, z230, z231, z232, z233, z234, z235, z236, z237, z238, z239, z240, z241, z242, z243, z244, z245, z246, z247, z248, z249, z250, z251, z252, z253, z254, z255, z256, z257, z258, z259, z260, z261, z262, z263, z264, z265, z266, z267, z268, z269, z270, z271, z272, z273, z274, z275, z276, z277, z278, z279, z280, z281, z282, z283, z284, z285, z286, z287, z288, z289, z290, z291, z292, z293, z294, z295, z296, z297, z298, z299, z300, z301, z302, z303, z304, z305, z306, z307, z308, z309, z310, z311, z312, z313, z314, z315, z316, z317, z318, z319, z320, z321, z322, z323, z324, z325, z326, z327, z328, z329, z330, z331, z332, z333, z334, z335, z336, z337, z338, z339, z340, z341, z342, z343, z344, z345, z346, z347, z348, z349, z350, z351, z352, z353, z354, z355, z356, z357, z358, z359, z360, z361, z362, z363, z364, z365, z366, z367, z368, z369, z370, z371, z372, z373, z374, z375, z376, z377, z378, z379, z380, z381, z382, z383, z384, z385, z386, z387, z388, z389], []⟩ w1 := by
  have hk := fun W => known1_any W
  have hsm := RA.small a RA.h1 (by have := RA.h2; have := RA.h3; omega)
  rw [hv] at hsm
  simp only at hsm
  conv => arg 2; simp only [tail17, bodyC, Try.f9, Option.getD_some, dropC]
  by_cases h1 : v0 = v1
  · subst h1
    by_cases ha1 : a = fx
    · have e1 : (a == fx) = true := by rw [beq_iff_eq]; exact ha1
      go_wp2_with fail
      refine (hk _).mono ?_
      rintro e w2 ⟨rfl, hb2⟩
      have hz2 := hb2.size
      (try simp only [World.size_alloc, World.size_setCell, World.size_drew] at hz2)
      have hB1_2 : Below w1.heap.size w1 w2 := ub0 (Below.refl _ _) hb2
      have f2_b0_0 := up0 hb2 (by omega) f1_b0_0
      have f2_b0_1 := up0 hb2 (by omega) f1_b0_1
      have f2_b1_0 := up0 hb2 (by omega) f1_b1_0
      have f2_b1_1 := up0 hb2 (by omega) f1_b1_1
      have f2_b2_0 := up0 hb2 (by omega) f1_b2_0
      have f2_b2_1 := up0 hb2 (by omega) f1_b2_1
      have hB2 : Below w.heap.size w w2 := ub0 (hB1) hb2
      clear hb2 hB1 f1_b0_0 f1_b0_1 f1_b1_0 f1_b1_1 f1_b2_0 f1_b2_1
      have l2_0 : p14 < w2.heap.size := by omega
      have l2_1 : p15 < w2.heap.size := by omega
      have l2_2 : p17 < w2.heap.size := by omega
      clear l1_0 l1_1 l1_2
      go_wp2
      go_ret
      exact ⟨rfl, hB2⟩
    by_cases ha2 : a = lx
    · have e1 : (a == fx) = false := by rw [beq_eq_false_iff_ne]; exact ha1
      have e2 : (a == lx) = true := by rw [beq_iff_eq]; exact ha2
      go_wp2_with fail
      refine (hk _).mono ?_
      rintro e w2 ⟨rfl, hb2⟩
      have hz2 := hb2.size
      (try simp only [World.size_alloc, World.size_setCell, World.size_drew] at hz2)
      have hB1_2 : Below w1.heap.size w1 w2 := ub0 (Below.refl _ _) hb2
      have f2_b0_0 := up0 hb2 (by omega) f1_b0_0
      have f2_b0_1 := up0 hb2 (by omega) f1_b0_1
      have f2_b1_0 := up0 hb2 (by omega) f1_b1_0
      have f2_b1_1 := up0 hb2 (by omega) f1_b1_1
      have f2_b2_0 := up0 hb2 (by omega) f1_b2_0
      have f2_b2_1 := up0 hb2 (by omega) f1_b2_1
      have hB2 : Below w.heap.size w w2 := ub0 (hB1) hb2
      clear hb2 hB1 f1_b0_0 f1_b0_1 f1_b1_0 f1_b1_1 f1_b2_0 f1_b2_1
      have l2_0 : p14 < w2.heap.size := by omega
      have l2_1 : p15 < w2.heap.size := by omega
      have l2_2 : p17 < w2.heap.size := by omega
      clear l1_0 l1_1 l1_2
      go_wp2
      go_ret
      exact ⟨rfl, hB2⟩
    have e1 : (a == fx) = false := by rw [beq_eq_false_iff_ne]; exact ha1
    have e2 : (a == lx) = false := by rw [beq_eq_false_iff_ne]; exact ha2
    have HT := Lib.hid ht
    have hn : Aside (t.length = n) := hlt
    have hbd : Aside (∀ i, i < n → (0 ≤ (t[i]?.getD R.d).lo ∧ (t[i]?.getD R.d).lo ≤ 1000000) ∧ -32768 ≤ (t[i]?.getD R.d).hi ∧ (t[i]?.getD R.d).hi ≤ 32767) := fun i hi => RA.bd i (by omega)
    have hfa := RA.h1
    have hab := RA.h2
    have hbl := RA.h3
    have hends := RA.ends
    rw [hfx] at hfa hends
    rw [hlx] at hbl hends
    have hmore : Aside ((∀ i, i < n → (t[i]?.getD R.d).lo ≠ a) → valueS (moreF a v0 t).1 b = (⟨u0, u1⟩, 0) ∧ whereS (moreF a v0 t).1 ⟨r0, r1⟩ = (P, 0) ∧ (moreF a v0 t).1.length = n + 1) := by
      intro hno
      have := RA.more (by rw [hv]) (by rw [hfx]; exact ha1) (by rw [hlx]; exact ha2) (fun i hi => hno i (by omega)) r0 r1 hr.1 hr.2.1 hr.2.2
      rw [hv, hu, hP, hlt] at this
      exact this
    have hPl : q ≤ 11 := by rw [← hq, ← hP]; have := wh_len t ⟨r0, r1⟩ (t.length - 1); omega
    have HQ : Aside (P.length = q) := hq
    obtain ⟨i5, hi5, hz5, hs5, hb5⟩ := info_parts infoRow
    clear hP hq hv hu hfx hlx hlt RA ht
    go_wp2_with fail
    go_loopg [32, 33, 34] (n) (fun gg s32 s33 s34 wr => ∃ k m g3 c3 : Nat, k ≤ n ∧ n - k ≤ gg ∧ s32 = rowV g3 m c3 ∧ s33 = .bool (moreF a v0 (t.take k)).2 ∧ s34 = .int .i64 k ∧ Aside (MoreI w1 t a v0 k m g3 c3 wr))
    case atStart =>
      refine ⟨0, 0, _, _, Nat.zero_le _, Nat.le_refl _, rfl, rfl, rfl, ?_⟩
      have ho := World.ownsRow_lit (base := w1.heap.size) (e := 81) (size := 2) w1 #[] 0 (by simp) (by decide) rfl
      exact { below := (by (try show Below _ _ _); repeat (first | (with_reducible refine Below.setCell ?_ (by first | omega | (simp <;> omega)) _) | (with_reducible refine Below.alloc ?_ (by first | omega | (simp <;> omega)) _) | (with_reducible refine Below.drew ?_) | (with_reducible exact Below.refl _ _) | (with_reducible refine below_call ?_ (by assumption) (by first | omega | (simp <;> omega))) | (with_reducible refine below_call ?_ (Drew.below (by assumption) _) (by first | omega | (simp <;> omega))))), own := (by simpa [moreF] using ho), len := rfl, m1 := (by omega), m0 := (fun _ => Nat.le_refl _), no := (fun i hi => absurd hi (by omega)) }
    case round =>
      obtain ⟨k, m, g3, c3, hkn, hg, rfl, rfl, rfl, I⟩ := hrel
      by_cases hlt : k < n
      · obtain ⟨J1, J2, J3, J4, J6, J5⟩ := I.out
        obtain ⟨x0', x1', hgw⟩ := rng_at HT.out k (by have := hn.out; omega)
        have x0 := (J1.cell (p := ⟨g, 0 + k * 2, none⟩) hgw).trans x0'
        have x1 := (J1.cell (p := ⟨g, 0 + k * 2 + 1, none⟩) hgw).trans x1'
        have hbk := hbd.out k hlt
        have hsn := moreF_snoc a v0 t k (by have := hn.out; omega)
        have hgl := J2.lt g3 rfl
        have hzr := J1.size
        have hi0 : (0 : Int) ≤ (k : Int) := Int.natCast_nonneg _
        have hltz : (k : Int) < (n : Int) := by omega
        have HJ := Lib.hid J5
        have HS : Aside (∀ z, (t[k]?.getD R.d).lo = z → z ≠ a → ∀ i, i < k + 1 → (t[i]?.getD R.d).lo ≠ a) := by
          intro z hz hza i hi
          rcases Nat.lt_or_ge i k with h | h
          · exact J5 i h
          · obtain rfl : i = k := by omega
            rw [hz]; exact hza
        clear J5 I x0' x1'
        generalize t[k]?.getD R.d = s at *
        obtain ⟨x, y⟩ := s
        simp only [Nat.zero_add] at x0 x1 hbk hsn
        have HS2 := Lib.hid (HS.out x rfl)
        clear HS
        by_cases hxa : x = a
        · have e3 : (x == a) = true := by rw [beq_iff_eq]; exact hxa
          have hB2 : Below w.heap.size w wr := below_call hB1 J1 (Below.size hB1)
          clear J2 hsn
          go_wp2_with fail
          refine (hk _).mono ?_
          rintro e w3 ⟨rfl, hb3⟩
          go_wp2
          go_ret
          exact ⟨rfl, below_call hB2 hb3 (Below.size hB2)⟩
        · have e3 : (x == a) = false := by rw [beq_eq_false_iff_ne]; exact hxa
          have cB := (J1.cell (p := ⟨p15, 0, none⟩) l1_1).trans f1_b1_0
          have hwa : p15 < wr.heap.size := by omega
          have hgwr : g < wr.heap.size := by omega
          have HS3 := HS2.out hxa
          have HSN := Lib.hid hsn
          clear HS2 hsn
          generalize hM : moreF a v0 (t.take k) = M at *
          obtain ⟨M, fl⟩ := M
          simp only at J2 J3 J6 HSN
          have H3 := Lib.hid J3
          have H4 := Lib.hid HS3
          clear J3 HS3 hM
          by_cases hgt : a < x
          · cases fl with
            | false =>
              have J2a := J2.alloc (.cells #[.int .i64 a, .int .i64 v0] 81)
              go_wp2_with (first | (at_builtin; (refine wpList_append_lies _ rfl _ _ _ (by rfl) w1.heap.size 81 i5 _ 2 16 Try.underlying79 hi5 hz5 hs5 hb5 rfl (by omega) (rowV g3 (m) c3) (m) (M.flatMap rCs) (by rfl) J2a ⟨wr.heap.size, 0, none⟩ 1 1 [.int .i64 a, .int .i64 v0] (by rfl) (by rfl) (news_two (by simp [go_sem]) (by simp [go_sem])) (by simp [Value.oneCell']) (by omega) (by simp only [maxLen]; omega) (by omega) (by simp; omega) (wr.heap.size + 1) (by simp) ?_); intro g4 c4 w4 o4 hgrow4 hat4 hlt4; have hB4 : Below w1.heap.size w1 w4 := Below.grown ((by (try show Below _ _ _); repeat (first | (with_reducible refine Below.setCell ?_ (by first | omega | (simp <;> omega)) _) | (with_reducible refine Below.alloc ?_ (by first | omega | (simp <;> omega)) _) | (with_reducible refine Below.drew ?_) | (with_reducible exact Below.refl _ _) | (with_reducible exact J1) | (with_reducible refine below_call ?_ (by assumption) (by first | omega | (simp <;> omega))) | (with_reducible refine below_call ?_ (Drew.below (by assumption) _) (by first | omega | (simp <;> omega)))))) hgrow4 (by simp; omega) (by simp [Value.ownBlock]; omega); have y0 := ((hB4.cell (p := ⟨g, k * 2, none⟩) hgw).trans (J1.cell (p := ⟨g, k * 2, none⟩) hgw).symm).trans x0; have y1 := ((hB4.cell (p := ⟨g, k * 2 + 1, none⟩) hgw).trans (J1.cell (p := ⟨g, k * 2 + 1, none⟩) hgw).symm).trans x1; have hz4 := hB4.size; have hgl4 := o4.lt g4 rfl; have o4a := o4.alloc (.cells #[.int .i64 x, .int .i64 y] 81); clear hgrow4 hat4 x0 x1 J2 J2a) | (at_builtin; (refine wpList_append_lies _ rfl _ _ _ (by rfl) w1.heap.size 81 i5 _ 2 16 Try.underlying79 hi5 hz5 hs5 hb5 rfl (by omega) (rowV g4 (m + 1) c4) (m + 1) (M.flatMap rCs ++ [.int .i64 a, .int .i64 v0]) (by rfl) o4a ⟨w4.heap.size, 0, none⟩ 1 1 [.int .i64 x, .int .i64 y] (by rfl) (by rfl) (news_two (by simp [go_sem]) (by simp [go_sem])) (by simp [Value.oneCell']) (by omega) (by simp only [maxLen]; omega) (by omega) (by simp; omega) (w4.heap.size + 1) (by simp) ?_); intro g5 c55 w5 o5 hgrow5 hat5 hlt5))
              go_wp2
              have hB5 : Below w1.heap.size w1 w5 := Below.grown ((by (try show Below _ _ _); repeat (first | (with_reducible refine Below.setCell ?_ (by first | omega | (simp <;> omega)) _) | (with_reducible refine Below.alloc ?_ (by first | omega | (simp <;> omega)) _) | (with_reducible refine Below.drew ?_) | (with_reducible exact Below.refl _ _) | (with_reducible exact hB4) | (with_reducible refine below_call ?_ (by assumption) (by first | omega | (simp <;> omega))) | (with_reducible refine below_call ?_ (Drew.below (by assumption) _) (by first | omega | (simp <;> omega)))))) hgrow5 (by simp; omega) (by simp [Value.ownBlock]; omega)
              go_roundg (n - (k + 1))
              case measure => omega
              case rel =>
                refine ⟨k + 1, m + 1 + 1, g5, c55, by omega, by omega, rfl, ?_, by go_num, ?_⟩
                · rw [HSN.out, show moreStep a v0 (M, false) ⟨x, y⟩ = (M ++ [⟨a, v0⟩, ⟨x, y⟩], true) from if_pos ⟨hgt, rfl⟩]
                · exact { below := hB5, own := (by rw [HSN.out, show moreStep a v0 (M, false) ⟨x, y⟩ = (M ++ [⟨a, v0⟩, ⟨x, y⟩], true) from if_pos ⟨hgt, rfl⟩]; simpa [rCs] using o5), len := (by rw [HSN.out, show moreStep a v0 (M, false) ⟨x, y⟩ = (M ++ [⟨a, v0⟩, ⟨x, y⟩], true) from if_pos ⟨hgt, rfl⟩]; have := H3.out; simp; omega), m1 := (by have := J6 (by simp); omega), m0 := (by rw [HSN.out, show moreStep a v0 (M, false) ⟨x, y⟩ = (M ++ [⟨a, v0⟩, ⟨x, y⟩], true) from if_pos ⟨hgt, rfl⟩]; intro h; cases h), no := H4.out }
            | true =>
              have hst : moreStep a v0 (M, true) ⟨x, y⟩ = (M ++ [⟨x, y⟩], true) := if_neg (by simp)
              have J2a := J2.alloc (.cells #[.int .i64 x, .int .i64 y] 81)
              go_wp2_with (at_builtin; (refine wpList_append_lies _ rfl _ _ _ (by rfl) w1.heap.size 81 i5 _ 2 16 Try.underlying79 hi5 hz5 hs5 hb5 rfl (by omega) (rowV g3 (m) c3) (m) (M.flatMap rCs) (by rfl) J2a ⟨wr.heap.size, 0, none⟩ 1 1 [.int .i64 x, .int .i64 y] (by rfl) (by rfl) (news_two (by simp [go_sem]) (by simp [go_sem])) (by simp [Value.oneCell']) (by omega) (by simp only [maxLen]; omega) (by omega) (by simp; omega) (wr.heap.size + 1) (by simp) ?_); intro g4 c4 w4 o4 hgrow4 hat4 hlt4)
              go_wp2
              have hB4 : Below w1.heap.size w1 w4 := Below.grown ((by (try show Below _ _ _); repeat (first | (with_reducible refine Below.setCell ?_ (by first | omega | (simp <;> omega)) _) | (with_reducible refine Below.alloc ?_ (by first | omega | (simp <;> omega)) _) | (with_reducible refine Below.drew ?_) | (with_reducible exact Below.refl _ _) | (with_reducible exact J1) | (with_reducible refine below_call ?_ (by assumption) (by first | omega | (simp <;> omega))) | (with_reducible refine below_call ?_ (Drew.below (by assumption) _) (by first | omega | (simp <;> omega)))))) hgrow4 (by simp; omega) (by simp [Value.ownBlock]; omega)
              go_roundg (n - (k + 1))
              case measure => omega
              case rel =>
                refine ⟨k + 1, m + 1, g4, c4, by omega, by omega, rfl, ?_, by go_num, ?_⟩
                · rw [HSN.out, hst]
                · exact { below := hB4, own := (by rw [HSN.out, hst]; simpa [rCs] using o4), len := (by rw [HSN.out, hst]; have := H3.out; simp; omega), m1 := (by omega), m0 := (by rw [HSN.out, hst]; intro h; have := J6 h; omega), no := H4.out }
          · have hngt : x < a := by omega
            have hst : moreStep a v0 (M, fl) ⟨x, y⟩ = (M ++ [⟨x, y⟩], fl) := if_neg (fun h => hgt h.1)
            have J2a := J2.alloc (.cells #[.int .i64 x, .int .i64 y] 81)
            go_wp2_with (at_builtin; (refine wpList_append_lies _ rfl _ _ _ (by rfl) w1.heap.size 81 i5 _ 2 16 Try.underlying79 hi5 hz5 hs5 hb5 rfl (by omega) (rowV g3 (m) c3) (m) (M.flatMap rCs) (by rfl) J2a ⟨wr.heap.size, 0, none⟩ 1 1 [.int .i64 x, .int .i64 y] (by rfl) (by rfl) (news_two (by simp [go_sem]) (by simp [go_sem])) (by simp [Value.oneCell']) (by omega) (by simp only [maxLen]; omega) (by omega) (by simp; omega) (wr.heap.size + 1) (by simp) ?_); intro g4 c4 w4 o4 hgrow4 hat4 hlt4)
            go_wp2
            have hB4 : Below w1.heap.size w1 w4 := Below.grown ((by (try show Below _ _ _); repeat (first | (with_reducible refine Below.setCell ?_ (by first | omega | (simp <;> omega)) _) | (with_reducible refine Below.alloc ?_ (by first | omega | (simp <;> omega)) _) | (with_reducible refine Below.drew ?_) | (with_reducible exact Below.refl _ _) | (with_reducible exact J1) | (with_reducible refine below_call ?_ (by assumption) (by first | omega | (simp <;> omega))) | (with_reducible refine below_call ?_ (Drew.below (by assumption) _) (by first | omega | (simp <;> omega)))))) hgrow4 (by simp; omega) (by simp [Value.ownBlock]; omega)
            go_roundg (n - (k + 1))
            case measure => omega
            case rel =>
              refine ⟨k + 1, m + 1, g4, c4, by omega, by omega, rfl, ?_, by go_num, ?_⟩
              · rw [HSN.out, hst]
              · exact { below := hB4, own := (by rw [HSN.out, hst]; simpa [rCs] using o4), len := (by rw [HSN.out, hst]; have := H3.out; simp; omega), m1 := (by omega), m0 := (by rw [HSN.out, hst]; intro h; have := J6 h; omega), no := H4.out }
      · have hltz : ¬ (k : Int) < (n : Int) := by omega
        obtain rfl : k = n := by omega
        obtain ⟨w2, hw2⟩ : ∃ x, x = wr := ⟨_, rfl⟩
        subst hw2
        obtain ⟨hb2, J2, J3, J4, -, J5⟩ := I.out
        obtain ⟨hval, hwhe, hml⟩ := hmore.out J5
        rw [List.take_of_length_le (by have := hn.out; omega)] at J2 J3
        generalize (moreF a v0 t).1 = M at *
        obtain rfl : m = k + 1 := by omega
        obtain ⟨hcm, hcm', hM⟩ := rowT_reads J2 hml
        replace hM := hM.mono (Nat.zero_le _)
        have ht := HT.out
        clear I J2 J3 J4 J5 HT hmore
        have hmm : k + 1 ≤ maxLen := by unfold maxLen; omega
        have hmn : Aside (M.length = k + 1) := hml
        have h1 := fun W hx => copy_60 0 (some ⟨g3, 0, none⟩) (k + 1) c3 M W hx hmn.out (fun h => by cases h) (by omega)
        have hVb := fun A c W hx => Value_any 0 A (k + 1) c M b W hx hmn hmm
        rw [hval] at hVb
        have hWh := fun A c W hx hnc hl => Where_any 0 A (k + 1) c M r0 r1 W hx hmn hnc hl
        rw [hwhe] at hWh
        simp only [RE] at hVb
        have hPm : q ≤ maxLen := by unfold maxLen; omega
        have hSm := fun lo1 lo2 A1 c1 A2 c2 W hx hy => (same_self lo1 lo2 A1 c1 A2 q c2 P W hx hy HQ hPm).mono fun e w' h => (⟨h.1, drew_all h.2⟩ : _ ∧ Below W.heap.size W w')
        clear hval hwhe hml
        have hz2 := hb2.size
        (try simp only [World.size_alloc, World.size_setCell, World.size_drew] at hz2)
        have hB1_2 : Below w1.heap.size w1 w2 := ub0 (Below.refl _ _) hb2
        have f2_b0_0 := up0 hb2 (by omega) f1_b0_0
        have f2_b0_1 := up0 hb2 (by omega) f1_b0_1
        have f2_b1_0 := up0 hb2 (by omega) f1_b1_0
        have f2_b1_1 := up0 hb2 (by omega) f1_b1_1
        have f2_b2_0 := up0 hb2 (by omega) f1_b2_0
        have f2_b2_1 := up0 hb2 (by omega) f1_b2_1
        have hB2 : Below w.heap.size w w2 := ub0 (hB1) hb2
        clear hb2 hB1 f1_b0_0 f1_b0_1 f1_b1_0 f1_b1_1 f1_b2_0 f1_b2_1
        have l2_0 : p14 < w2.heap.size := by omega
        have l2_1 : p15 < w2.heap.size := by omega
        have l2_2 : p17 < w2.heap.size := by omega
        clear l1_0 l1_1 l1_2
        go_wp2_with fail
        refine (hVb _ _ _ (hM.below (Below.refl _ _) (Nat.le_refl _))).mono ?_
        rintro e w3 ⟨rfl, hb3⟩
        have hz3 := hb3.size
        (try simp only [World.size_alloc, World.size_setCell, World.size_drew] at hz3)
        have hB1_3 : Below w1.heap.size w1 w3 := ub0 (hB1_2) hb3
        clear hB1_2
        have hB2_3 : Below w2.heap.size w2 w3 := ub0 (Below.refl _ _) hb3
        have f3_b0_0 := up0 hb3 (by omega) f2_b0_0
        have f3_b0_1 := up0 hb3 (by omega) f2_b0_1
        have f3_b1_0 := up0 hb3 (by omega) f2_b1_0
        have f3_b1_1 := up0 hb3 (by omega) f2_b1_1
        have f3_b2_0 := up0 hb3 (by omega) f2_b2_0
        have f3_b2_1 := up0 hb3 (by omega) f2_b2_1
        have hB3 : Below w.heap.size w w3 := ub0 (hB2) hb3
        clear hb3 hB2 f2_b0_0 f2_b0_1 f2_b1_0 f2_b1_1 f2_b2_0 f2_b2_1
        have l3_0 : p14 < w3.heap.size := by omega
        have l3_1 : p15 < w3.heap.size := by omega
        have l3_2 : p17 < w3.heap.size := by omega
        clear l2_0 l2_1 l2_2
        go_wp2_with fail
        generalize hq4 : World.alloc w3 _ = w4
        have hb4 := froze hq4
        clear hq4
        have hz4 := hb4.size
        (try simp only [World.size_alloc, World.size_setCell, World.size_drew] at hz4)
        have hB1_4 : Below w1.heap.size w1 w4 := ub1 (hB1_3) hb4
        clear hB1_3
        have hB2_4 : Below w2.heap.size w2 w4 := ub1 (hB2_3) hb4
        clear hB2_3
        have f4_b0_0 := up1 hb4 (by omega) f3_b0_0
        have f4_b0_1 := up1 hb4 (by omega) f3_b0_1
        have f4_b1_0 := up1 hb4 (by omega) f3_b1_0
        have f4_b1_1 := up1 hb4 (by omega) f3_b1_1
        have f4_b2_0 := up1 hb4 (by omega) f3_b2_0
        have f4_b2_1 := up1 hb4 (by omega) f3_b2_1
        have f4_b3_0 : w4.cell? ⟨w3.heap.size, 0, none⟩ = some (.int .i64 u0) := (hb4.cell (p := ⟨w3.heap.size, 0, none⟩) (by show w3.heap.size < _; first | omega | (simp only [World.size_alloc, World.size_setCell, World.size_drew]; omega))).trans (by simp [go_sem, cell_set])
        have f4_b3_1 : w4.cell? ⟨w3.heap.size, 1, none⟩ = some (.int .i64 u1) := (hb4.cell (p := ⟨w3.heap.size, 1, none⟩) (by show w3.heap.size < _; first | omega | (simp only [World.size_alloc, World.size_setCell, World.size_drew]; omega))).trans (by simp [go_sem, cell_set])
        have hB4 : Below w.heap.size w w4 := ub1 (hB3) hb4
        clear hb4 hB3 f3_b0_0 f3_b0_1 f3_b1_0 f3_b1_1 f3_b2_0 f3_b2_1
        have l4_0 : p14 < w4.heap.size := by omega
        have l4_1 : p15 < w4.heap.size := by omega
        have l4_2 : p17 < w4.heap.size := by omega
        have l4_3 : w3.heap.size < w4.heap.size := by omega
        clear l3_0 l3_1 l3_2
        have hAll5 : Aside (∀ W, Below w4.heap.size w4 W → (Below w4.heap.size w4 W ∧ W.cell? ⟨p14, 0, none⟩ = some (.int .i64 r0) ∧ W.cell? ⟨p14, 1, none⟩ = some (.int .i64 r1) ∧ W.cell? ⟨p15, 0, none⟩ = some (.int .i64 v0) ∧ W.cell? ⟨p15, 1, none⟩ = some (.int .i64 v0) ∧ W.cell? ⟨p17, 0, none⟩ = some (.int .i64 u0) ∧ W.cell? ⟨p17, 1, none⟩ = some (.int .i64 u1) ∧ W.cell? ⟨w3.heap.size, 0, none⟩ = some (.int .i64 u0) ∧ W.cell? ⟨w3.heap.size, 1, none⟩ = some (.int .i64 u1))) := fun W hT => ⟨hT, (hT.cell (p := ⟨p14, 0, none⟩) (by show p14 < _; omega)).trans f4_b0_0, (hT.cell (p := ⟨p14, 1, none⟩) (by show p14 < _; omega)).trans f4_b0_1, (hT.cell (p := ⟨p15, 0, none⟩) (by show p15 < _; omega)).trans f4_b1_0, (hT.cell (p := ⟨p15, 1, none⟩) (by show p15 < _; omega)).trans f4_b1_1, (hT.cell (p := ⟨p17, 0, none⟩) (by show p17 < _; omega)).trans f4_b2_0, (hT.cell (p := ⟨p17, 1, none⟩) (by show p17 < _; omega)).trans f4_b2_1, (hT.cell (p := ⟨w3.heap.size, 0, none⟩) (by show w3.heap.size < _; omega)).trans f4_b3_0, (hT.cell (p := ⟨w3.heap.size, 1, none⟩) (by show w3.heap.size < _; omega)).trans f4_b3_1⟩
        go_upto_region 51 with (fail)
        go_cut [36, 18] (fun s36 s18 wx => ∃ A7 d7, s36 = .slice A7 q d7 ∧ s18 = .int .i64 0 ∧ Aside (Below w4.heap.size w4 wx ∧ Ranges wx 0 A7 P))
        case first =>
          go_region_held3 (fun W => Below w4.heap.size w4 W ∧ W.cell? ⟨p14, 0, none⟩ = some (.int .i64 r0) ∧ W.cell? ⟨p14, 1, none⟩ = some (.int .i64 r1) ∧ W.cell? ⟨p15, 0, none⟩ = some (.int .i64 v0) ∧ W.cell? ⟨p15, 1, none⟩ = some (.int .i64 v0) ∧ W.cell? ⟨p17, 0, none⟩ = some (.int .i64 u0) ∧ W.cell? ⟨p17, 1, none⟩ = some (.int .i64 u1) ∧ W.cell? ⟨w3.heap.size, 0, none⟩ = some (.int .i64 u0) ∧ W.cell? ⟨w3.heap.size, 1, none⟩ = some (.int .i64 u1))
            (exact hAll5.out _ (by repeat (first | (with_reducible assumption) | exact Below.refl _ _ | (with_reducible refine Below.setCell ?_ (by first | omega | (simp <;> omega)) _) | (with_reducible refine Below.alloc ?_ (by first | omega | (simp <;> omega)) _) | (with_reducible refine Below.drew ?_))))
            (first | (go_at_call 60; refine (h1 _ (hM.below (below_call (hB2_4) (by repeat (first | (with_reducible assumption) | exact Below.refl _ _ | (with_reducible refine Below.setCell ?_ (by first | omega | (simp <;> omega)) _) | (with_reducible refine Below.alloc ?_ (by first | omega | (simp <;> omega)) _) | (with_reducible refine Below.drew ?_))) (by omega)) (Nat.le_refl _))).mono ?_; rintro e wq ⟨A6, c6, rfl, hc6, hm6, hy6, hbq⟩; have hTq : Below w4.heap.size w4 wq := below_call (by repeat (first | (with_reducible assumption) | exact Below.refl _ _ | (with_reducible refine Below.setCell ?_ (by first | omega | (simp <;> omega)) _) | (with_reducible refine Below.alloc ?_ (by first | omega | (simp <;> omega)) _) | (with_reducible refine Below.drew ?_))) hbq (by first | omega | (simp <;> omega)); replace hy6 := hy6.mono (Nat.zero_le _); clear hbq) | (go_at_call 62; refine (hWh _ _ _ (hy6.below (by repeat (first | (with_reducible assumption) | exact Below.refl _ _ | (with_reducible refine Below.setCell ?_ (by first | omega | (simp <;> omega)) _) | (with_reducible refine Below.alloc ?_ (by first | omega | (simp <;> omega)) _) | (with_reducible refine Below.drew ?_))) (Nat.le_refl _)) hc6 hm6).mono ?_; rintro e wp ⟨v5, rfl, ho5, -, hbp⟩; have hTp : Below w4.heap.size w4 wp := below_call (by repeat (first | (with_reducible assumption) | exact Below.refl _ _ | (with_reducible refine Below.setCell ?_ (by first | omega | (simp <;> omega)) _) | (with_reducible refine Below.alloc ?_ (by first | omega | (simp <;> omega)) _) | (with_reducible refine Below.drew ?_))) hbp (by have := hTq.size; first | omega | (simp <;> omega)); obtain ⟨A7, d7, hv5, hc7, hm7, hP7⟩ := ho5.reads; subst hv5; rw [HQ.out]; clear hbp ho5))
          all_goals
            go_wp2_with fail
            go_meet
            exact ⟨_, _, rfl, rfl, hTp, hP7.mono (Nat.zero_le _)⟩
        case rest =>
          obtain ⟨A7, d7, rfl, rfl, I5⟩ := hcut
          obtain ⟨w5, hw5, hb5⟩ : ∃ x, x = _ ∧ Below w4.heap.size w4 x := ⟨_, rfl, I5.out.1⟩
          subst hw5
          obtain ⟨-, hP7⟩ := I5.out
          clear I5
          have hz5 := hb5.size
          (try simp only [World.size_alloc, World.size_setCell, World.size_drew] at hz5)
          have hB1_5 : Below w1.heap.size w1 w5 := ub0 (hB1_4) hb5
          clear hB1_4
          have hB2_5 : Below w2.heap.size w2 w5 := ub0 (hB2_4) hb5
          clear hB2_4
          have f5_b0_0 := up0 hb5 (by omega) f4_b0_0
          have f5_b0_1 := up0 hb5 (by omega) f4_b0_1
          have f5_b1_0 := up0 hb5 (by omega) f4_b1_0
          have f5_b1_1 := up0 hb5 (by omega) f4_b1_1
          have f5_b2_0 := up0 hb5 (by omega) f4_b2_0
          have f5_b2_1 := up0 hb5 (by omega) f4_b2_1
          have f5_b3_0 := up0 hb5 (by omega) f4_b3_0
          have f5_b3_1 := up0 hb5 (by omega) f4_b3_1
          have hB5 : Below w.heap.size w w5 := ub0 (hB4) hb5
          clear hb5 hB4 f4_b0_0 f4_b0_1 f4_b1_0 f4_b1_1 f4_b2_0 f4_b2_1 f4_b3_0 f4_b3_1
          have l5_0 : p14 < w5.heap.size := by omega
          have l5_1 : p15 < w5.heap.size := by omega
          have l5_2 : p17 < w5.heap.size := by omega
          have l5_3 : w3.heap.size < w5.heap.size := by omega
          clear l4_0 l4_1 l4_2 l4_3
          go_wp2_with fail
          refine (hSm _ _ _ _ _ _ _ (hP7.below (Below.refl _ _) (Nat.le_refl _)) (hP5.below (hB1_5) (Nat.le_refl _))).mono ?_
          rintro e w6 ⟨rfl, hb6⟩
          have hz6 := hb6.size
          (try simp only [World.size_alloc, World.size_setCell, World.size_drew] at hz6)
          have hB1_6 : Below w1.heap.size w1 w6 := ub0 (hB1_5) hb6
          clear hB1_5
          have hB2_6 : Below w2.heap.size w2 w6 := ub0 (hB2_5) hb6
          clear hB2_5
          have hB5_6 : Below w5.heap.size w5 w6 := ub0 (Below.refl _ _) hb6
          have f6_b0_0 := up0 hb6 (by omega) f5_b0_0
          have f6_b0_1 := up0 hb6 (by omega) f5_b0_1
          have f6_b1_0 := up0 hb6 (by omega) f5_b1_0
          have f6_b1_1 := up0 hb6 (by omega) f5_b1_1
          have f6_b2_0 := up0 hb6 (by omega) f5_b2_0
          have f6_b2_1 := up0 hb6 (by omega) f5_b2_1
          have f6_b3_0 := up0 hb6 (by omega) f5_b3_0
          have f6_b3_1 := up0 hb6 (by omega) f5_b3_1
          have hB6 : Below w.heap.size w w6 := ub0 (hB5) hb6
          clear hb6 hB5 f5_b0_0 f5_b0_1 f5_b1_0 f5_b1_1 f5_b2_0 f5_b2_1 f5_b3_0 f5_b3_1
          have l6_0 : p14 < w6.heap.size := by omega
          have l6_1 : p15 < w6.heap.size := by omega
          have l6_2 : p17 < w6.heap.size := by omega
          have l6_3 : w3.heap.size < w6.heap.size := by omega
          clear l5_0 l5_1 l5_2 l5_3
          go_wp2_with fail
          refine (hk _).mono ?_
          rintro e w7 ⟨rfl, hb7⟩
          have hz7 := hb7.size
          (try simp only [World.size_alloc, World.size_setCell, World.size_drew] at hz7)
          have hB1_7 : Below w1.heap.size w1 w7 := ub0 (hB1_6) hb7
          clear hB1_6
          have hB2_7 : Below w2.heap.size w2 w7 := ub0 (hB2_6) hb7
          clear hB2_6
          have hB5_7 : Below w5.heap.size w5 w7 := ub0 (hB5_6) hb7
          clear hB5_6
          have f7_b0_0 := up0 hb7 (by omega) f6_b0_0
          have f7_b0_1 := up0 hb7 (by omega) f6_b0_1
          have f7_b1_0 := up0 hb7 (by omega) f6_b1_0
          have f7_b1_1 := up0 hb7 (by omega) f6_b1_1
          have f7_b2_0 := up0 hb7 (by omega) f6_b2_0
          have f7_b2_1 := up0 hb7 (by omega) f6_b2_1
          have f7_b3_0 := up0 hb7 (by omega) f6_b3_0
          have f7_b3_1 := up0 hb7 (by omega) f6_b3_1
          have hB7 : Below w.heap.size w w7 := ub0 (hB6) hb7
          clear hb7 hB6 f6_b0_0 f6_b0_1 f6_b1_0 f6_b1_1 f6_b2_0 f6_b2_1 f6_b3_0 f6_b3_1
          have l7_0 : p14 < w7.heap.size := by omega
          have l7_1 : p15 < w7.heap.size := by omega
          have l7_2 : p17 < w7.heap.size := by omega
          have l7_3 : w3.heap.size < w7.heap.size := by omega
          clear l6_0 l6_1 l6_2 l6_3
          go_wp2
          go_ret
          exact ⟨rfl, hB7⟩
  · have e1 : (v0 == v1) = false := by rw [beq_eq_false_iff_ne]; exact h1
    go_wp2_with fail
    refine (hk _).mono ?_
    rintro e w2 ⟨rfl, hb2⟩
    have hz2 := hb2.size
    (try simp only [World.size_alloc, World.size_setCell, World.size_drew] at hz2)
    have hB1_2 : Below w1.heap.size w1 w2 := ub0 (Below.refl _ _) hb2
    have f2_b0_0 := up0 hb2 (by omega) f1_b0_0
    have f2_b0_1 := up0 hb2 (by omega) f1_b0_1
    have f2_b1_0 := up0 hb2 (by omega) f1_b1_0
    have f2_b1_1 := up0 hb2 (by omega) f1_b1_1
    have f2_b2_0 := up0 hb2 (by omega) f1_b2_0
    have f2_b2_1 := up0 hb2 (by omega) f1_b2_1
    have hB2 : Below w.heap.size w w2 := ub0 (hB1) hb2
    clear hb2 hB1 f1_b0_0 f1_b0_1 f1_b1_0 f1_b1_1 f1_b2_0 f1_b2_1
    have l2_0 : p14 < w2.heap.size := by omega
    have l2_1 : p15 < w2.heap.size := by omega
    have l2_2 : p17 < w2.heap.size := by omega
    clear l1_0 l1_1 l1_2
    go_wp2
    go_ret
    exact ⟨rfl, hB2⟩


end Go.Proofs.Ytfohdafijfjefaa
